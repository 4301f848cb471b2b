/-
  The walks of package report: leaks, Lines.
-/
import Derived.Test.YtehjfmbnebeioaaDoorRpM
namespace Go.Proofs.YtehjfmbnebeioaaDoor
set_option linter.unusedSimpArgs false
set_option linter.unusedVariables false
open Go.RowKit Go.Shelf
attribute [local go_sem] Oper.semAt_some

theorem info_strL : (Tryd.prog.info? 9).map (fun i => (i.zero, i.size, i.bytes)) = some (some (.string ⟨#[]⟩), 1, 16) := by kernel_rfl
theorem chanR_snoc (v : Vd) (chans : List By) (k : Nat) (h : k < chans.length) : chanR v chans (k + 1) = chanR v chans k ++ [rowR wFirst chans[k] (atL v.A k), rowR wSecond chans[k] (atL v.B k)] := by
  unfold chanR
  rw [List.range_succ, List.flatMap_append]
  have e : chans.getD k [] = chans[k] := by unfold List.getD; rw [List.getElem?_eq_getElem h]; rfl
  rw [← e]; simp
theorem chanR_len (v : Vd) (chans : List By) : ∀ k, (chanR v chans k).length = 2 * k
  | 0 => rfl
  | k + 1 => by
    have := chanR_len v chans k
    unfold chanR at this ⊢
    rw [List.range_succ, List.flatMap_append, List.length_append, this]; simp; omega
theorem atL_le {ls : List (List Nat)} (h : ∀ l ∈ ls, ∀ x ∈ l, x ≤ 18446744073709551615) (i : Nat) : ∀ x ∈ atL ls i, x ≤ 18446744073709551615 := by
  unfold atL List.getD
  intro x hx
  by_cases hi : i < ls.length
  · rw [List.getElem?_eq_getElem hi] at hx; exact h _ (List.getElem_mem hi) x hx
  · rw [List.getElem?_eq_none (by omega)] at hx; cases hx
theorem catLk (a b : By) : (⟨#[76, 69, 65, 75, 32, 97, 116, 32]⟩ : ByteArray) ++ ⟨a.toArray⟩ ++ ⟨#[32]⟩ ++ ⟨b.toArray⟩ = ⟨(wLeak ++ ([32, 97, 116, 32] : By) ++ a ++ ([32] : By) ++ b).toArray⟩ := by
  simp only [ByteArray.mk_append_mk]; simp [wLeak]
theorem strs_oneC (l : List By) : ∀ u ∈ l.map sV, u.oneCell' = true := by
  intro u hu
  obtain ⟨s, _, rfl⟩ := List.mem_map.1 hu
  rfl

set_option maxRecDepth 100000 in
set_option maxHeartbeats 8000000 in
theorem leaks_any (k r : Nat) (lv : Int) (A B : List (List Nat)) (imp pol : Bool) (ln co er : Int) (pA pB : Option Addr) (cA cB : Nat) (levels chans : List By) (vl vc : Value) (R : Nat → Prop) (w : World) (hvl : Strs R w vl levels) (hvc : Strs R w vc chans) (hA : NLL R w (.slice pA A.length cA) A) (hB : NLL R w (.slice pB B.length cB) B) (hR : ∀ i, R i → i < w.heap.size)
    (hAn : ∀ l ∈ A, ∀ x ∈ l, x ≤ 18446744073709551615) (hBn : ∀ l ∈ B, ∀ x ∈ l, x ≤ 18446744073709551615) (hlv : -9223372036854775808 ≤ lv ∧ lv ≤ 9223372036854775807) (hls : ∀ s ∈ levels, s.length ≤ 140737488355328) (hcs : ∀ s ∈ chans, s.length ≤ 140737488355328) (hcl : chans.length ≤ 1000000) (ht : Tabs w) :
    Calls Tryd.prog 38 #[.agg #[.int .u8 (k : Int), .int .u8 (r : Int), .int .i64 lv, .slice pA A.length cA, .slice pB B.length cB, .bool imp, .bool pol, .int .i64 ln, .int .i64 co, .int .i64 er], vl, vc] w (VPost (leakR (⟨k, r, lv, A, B, imp, pol, ln, co, er⟩ : Vd) levels chans) w) := by
  obtain ⟨pl, cl, rfl, gl1, gl2, gl3, hrl⟩ := hvl.op
  obtain ⟨pc, cc, rfl, gc1, gc2, gc3, hrc⟩ := hvc.op
  have hb0 : Below w.heap.size w (w.alloc (.cells #[.int .u8 (k : Int), .int .u8 (r : Int), .int .i64 lv, .slice pA A.length cA, .slice pB B.length cB, .bool imp, .bool pol, .int .i64 ln, .int .i64 co, .int .i64 er] 35)) := (Below.refl _ _).alloc (Nat.le_refl _) _
  have HB0 := hid hb0
  by_cases h1 : lv < 0
  · have HV := hid (show leakR (⟨k, r, lv, A, B, imp, pol, ln, co, er⟩ : Vd) levels chans = ([], 3) from by unfold leakR; rw [if_pos (.inl h1)])
    have a1 : decide (lv < 0) = true := by simp; omega
    clear hvl hvc hA hB hR hAn hBn hls hcs ht hrl hrc hb0
    go_enter Tryd.func38, Tryd.ntmps38
    go_wp2
    go_ret2
    exact vpost_nil HV.out HB0.out
  · obtain ⟨n, rfl⟩ : ∃ n : Nat, lv = n := ⟨lv.toNat, by omega⟩
    have a1 : decide ((n : Int) < 0) = false := by simp
    by_cases h2 : levels.length ≤ n
    · have HV := hid (show leakR ⟨k, r, n, A, B, imp, pol, ln, co, er⟩ levels chans = ([], 3) from by unfold leakR; rw [if_pos (.inr (by dsimp only; omega))])
      clear hvl hvc hA hB hR hAn hBn hls hcs ht hrl hrc hb0
      go_enter Tryd.func38, Tryd.ntmps38
      go_wp2
      go_ret2
      exact vpost_nil HV.out HB0.out
    · have a2 : ¬ levels.length ≤ n := h2
      by_cases h3 : chans.length < A.length
      · have HV := hid (show leakR ⟨k, r, n, A, B, imp, pol, ln, co, er⟩ levels chans = ([], 5) from by unfold leakR; rw [if_neg (by dsimp only; omega), if_pos (.inl h3)])
        clear hvl hvc hA hB hR hAn hBn hls hcs ht hrl hrc hb0
        go_enter Tryd.func38, Tryd.ntmps38
        go_wp2
        go_ret2
        exact vpost_nil HV.out HB0.out
      · by_cases h4 : chans.length < B.length
        · have HV := hid (show leakR ⟨k, r, n, A, B, imp, pol, ln, co, er⟩ levels chans = ([], 5) from by unfold leakR; rw [if_neg (by dsimp only; omega), if_pos (.inr h4)])
          clear hvl hvc hA hB hR hAn hBn hls hcs ht hrl hrc hb0
          go_enter Tryd.func38, Tryd.ntmps38
          go_wp2
          go_ret2
          exact vpost_nil HV.out HB0.out
        · cases imp with
          | true =>
            have hnl : n < levels.length := by omega
            obtain ⟨bl, ol, rfl, hRl, hccl⟩ := hrl.atS n hnl
            have hcell := (hb0.cell (p := ⟨bl, ol + n, none⟩) (hR _ hRl)).trans (hccl n hnl)
            have hnm : levels[n].length ≤ 140737488355328 := hls _ (List.getElem_mem hnl)
            have zn := size_mkS levels[n]
            have zh := size_mkS ([105, 109, 112, 108, 105, 99, 105, 116] : By)
            obtain ⟨FS, hFS⟩ : ∃ s, wLeak ++ ([32, 97, 116, 32] : By) ++ levels[n] ++ ([32] : By) ++ ([105, 109, 112, 108, 105, 99, 105, 116] : By) = s := ⟨_, rfl⟩
            have HV := hid (show leakR (⟨k, r, n, A, B, true, pol, ln, co, er⟩ : Vd) levels chans = (FS :: chanR (⟨k, r, n, A, B, true, pol, ln, co, er⟩ : Vd) chans chans.length, 0) from by
              unfold leakR
              rw [if_neg (by dsimp only; omega), if_neg (by dsimp only; omega), ← hFS]
              have e : levels.getD n [] = levels[n] := by unfold List.getD; rw [List.getElem?_eq_getElem hnl]; rfl
              simp only [Int.toNat_natCast, e, wHow]; rfl)
            have HFS := hid hFS
            have HT := hid ht
            have HNA0 := hid hA; have HNB0 := hid hB; have HRC := hid hrc; have HCS := hid hcs; have HAn := hid hAn; have HBn := hid hBn
            clear hvl hvc hA hB hAn hBn hls hcs ht hrl hrc hccl hFS
            obtain ⟨nm, hnme⟩ : ∃ s, levels[n] = s := ⟨_, rfl⟩
            rw [hnme] at hcell hnm zn HFS
            clear hnme
            obtain ⟨W0, hW0⟩ : ∃ W, w.alloc (.cells #[.int .u8 (k : Int), .int .u8 (r : Int), .int .i64 (n : Int), .slice pA A.length cA, .slice pB B.length cB, .bool true, .bool pol, .int .i64 ln, .int .i64 co, .int .i64 er] 35) = W := ⟨_, rfl⟩
            rw [hW0] at HB0 hb0
            have hcb : W0.heap[w.heap.size]? = some (.cells #[.int .u8 (k : Int), .int .u8 (r : Int), .int .i64 (n : Int), .slice pA A.length cA, .slice pB B.length cB, .bool true, .bool pol, .int .i64 ln, .int .i64 co, .int .i64 er] 35 (0, 0)) := by rw [← hW0, heap_al, if_pos rfl]
            have hsz0 : W0.heap.size = w.heap.size + 1 := by rw [← hW0, World.size_alloc]
            have HSZ0 := hid hsz0
            have c2 : W0.cell? ⟨w.heap.size, 2, none⟩ = some (.int .i64 (n : Int)) := by rw [cell_of_row W0 _ 2 _ _ _ hcb]; rfl
            have c3 : W0.cell? ⟨w.heap.size, 3, none⟩ = some (.slice pA A.length cA) := by rw [cell_of_row W0 _ 3 _ _ _ hcb]; rfl
            have c4 : W0.cell? ⟨w.heap.size, 4, none⟩ = some (.slice pB B.length cB) := by rw [cell_of_row W0 _ 4 _ _ _ hcb]; rfl
            have c5 : W0.cell? ⟨w.heap.size, 5, none⟩ = some (.bool true) := by rw [cell_of_row W0 _ 5 _ _ _ hcb]; rfl
            have HC3 := hid c3; have HC4 := hid c4
            have HWW := hid hW0
            have a3 : ¬ chans.length < A.length := h3
            have a4 : ¬ chans.length < B.length := h4
            clear hcb hW0 hb0 hsz0
            have HCAT := hid (show (⟨#[76, 69, 65, 75, 32, 97, 116, 32]⟩ : ByteArray) ++ ⟨nm.toArray⟩ ++ ⟨#[32]⟩ ++ ⟨#[105, 109, 112, 108, 105, 99, 105, 116]⟩ = ⟨FS.toArray⟩ from by rw [← HFS.out]; exact catLk nm ([105, 109, 112, 108, 105, 99, 105, 116] : By))
            go_enter Tryd.func38, Tryd.ntmps38
            go_wp2_with fail
            rw [HWW.out, HCAT.out]
            clear c2 c5 hcell zn zh HFS HCAT a3 a4 hnm
            have ho0 : (W0.alloc (.cells #[.string ⟨FS.toArray⟩] 9)).ownsRow (w.heap.size + 1) 9 1 (.slice (some ⟨W0.heap.size, 0, none⟩) 1 1) 1 [sV FS] := World.ownsRow_lit (base := w.heap.size + 1) (e := 9) (size := 1) W0 #[.string ⟨FS.toArray⟩] 1 (by rw [HSZ0.out]; exact Nat.le_refl _) (by unfold maxLen; omega) rfl
            rw [HSZ0.out] at ho0
            have hw1 : Below (w.heap.size + 1) W0 (W0.alloc (.cells #[.string ⟨FS.toArray⟩] 9)) ∧ w.heap.size + 1 ≤ (W0.alloc (.cells #[.string ⟨FS.toArray⟩] 9)).heap.size := ⟨(Below.refl _ _).alloc (by rw [HSZ0.out]; exact Nat.le_refl _) _, by rw [World.size_alloc, HSZ0.out]; omega⟩
            have HO0 := hid ho0; have HW1 := hid hw1
            clear ho0 hw1
            generalize W0.alloc _ = W1 at *
            have hch0 := chanR_len (⟨k, r, n, A, B, true, pol, ln, co, er⟩ : Vd) chans
            have HCL := hid hch0
            clear hch0
            go_loopw [9, 10, 11, 56] (fun ov iv nv xv W => ∃ j : Nat, xv = .int .i64 j ∧ j ≤ chans.length ∧ W.ownsRow (w.heap.size + 1) 9 1 ov (1 + 2 * j) ((FS :: chanR (⟨k, r, n, A, B, true, pol, ln, co, er⟩ : Vd) chans j).map sV) ∧ Below (w.heap.size + 1) W0 W ∧ w.heap.size + 1 ≤ W.heap.size) (fun _ _ _ xv _ => chans.length - (intOf xv).toNat)
            case atStart => exact ⟨0, rfl, Nat.zero_le _, HO0.out, HW1.out.1, HW1.out.2⟩
            case round =>
              obtain ⟨j, rfl, hj, ho, hwb⟩ := hrel
              obtain ⟨wo, rfl⟩ : ∃ wo : World, wo = wr := ⟨_, rfl⟩
              obtain ⟨po, co2, rfl⟩ := owns_sliceL ho
              have HO := hid ho; have HWB := hid hwb
              clear ho hwb
              by_cases hjl : j < chans.length
              · obtain ⟨b4, o4, rfl, hR4, hcc4⟩ := HRC.out.atS j hjl
                have hkp : ∀ W, Below wo.heap.size wo W → ∀ i, i < w.heap.size → W.heap[i]? = w.heap[i]? := fun W hW i hi => (hW.block i (by have := HWB.out.2; omega)).trans ((HWB.out.1.block i (by omega)).trans (HB0.out.block i hi))
                have hnc : wo.cell? ⟨b4, o4 + j, none⟩ = some (.string ⟨(chans[j]).toArray⟩) := (World.cell?_of_block (a := ⟨b4, o4 + j, none⟩) (hkp wo (Below.refl _ _) b4 (hR _ hR4))).trans (hcc4 j hjl)
                have hcn := HCS.out _ (List.getElem_mem hjl)
                have HSN := hid (chanR_snoc (⟨k, r, n, A, B, true, pol, ln, co, er⟩ : Vd) chans j hjl)
                have HTW := hid (fun W (hW : Below wo.heap.size wo W) => tab_below (B := w.heap.size) (w := w) (w' := W) ⟨hW.os.trans (HWB.out.1.os.trans HB0.out.os), hW.tape.trans (HWB.out.1.tape.trans HB0.out.tape), hW.output.trans (HWB.out.1.output.trans HB0.out.output), by have := hW.size; have := HWB.out.2; omega, fun i hi => hkp W hW i hi⟩ (Nat.le_refl _) HT.out.pow)
                obtain ⟨x1, hx1⟩ : ∃ x, rowR wFirst chans[j] (atL A j) = x := ⟨_, rfl⟩
                obtain ⟨x2, hx2⟩ : ∃ x, rowR wSecond chans[j] (atL B j) = x := ⟨_, rfl⟩
                have HNA := hid (fun W (hW : Below wo.heap.size wo W) => at_any A (.slice pA A.length cA) j (fun i => i < w.heap.size) W (HNA0.out.keep fun i hi => ⟨hR i hi, hkp W hW i (hR i hi)⟩) (by omega))
                have HNB := hid (fun W (hW : Below wo.heap.size wo W) => at_any B (.slice pB B.length cB) j (fun i => i < w.heap.size) W (HNB0.out.keep fun i hi => ⟨hR i hi, hkp W hW i (hR i hi)⟩) (by omega))
                have HR1 := hid (fun u W (hu : Nums (fun i => i < w.heap.size) W u (atL A j)) (hW : Below wo.heap.size wo W) => show Calls Tryd.prog 48 #[.string ⟨#[102, 105, 114, 115, 116]⟩, .string ⟨(chans[j]).toArray⟩, u] W fun e w' => e = .returned (.string ⟨x1.toArray⟩) ∧ Below W.heap.size W w' from by
                  rw [← hx1]; exact row_any wFirst chans[j] (atL A j) u _ W hu (fun i hi => by have := hW.size; have := HWB.out.2; omega) (atL_le HAn.out j) (by decide) hcn (HTW.out W hW))
                have HR2 := hid (fun u W (hu : Nums (fun i => i < w.heap.size) W u (atL B j)) (hW : Below wo.heap.size wo W) => show Calls Tryd.prog 48 #[.string ⟨#[115, 101, 99, 111, 110, 100]⟩, .string ⟨(chans[j]).toArray⟩, u] W fun e w' => e = .returned (.string ⟨x2.toArray⟩) ∧ Below W.heap.size W w' from by
                  rw [← hx2]; exact row_any wSecond chans[j] (atL B j) u _ W hu (fun i hi => by have := hW.size; have := HWB.out.2; omega) (atL_le HBn.out j) (by decide) hcn (HTW.out W hW))
                have HSN2 := hid (show (FS :: chanR (⟨k, r, n, A, B, true, pol, ln, co, er⟩ : Vd) chans (j + 1)).map sV = (FS :: chanR (⟨k, r, n, A, B, true, pol, ln, co, er⟩ : Vd) chans j).map sV ++ [sV x1, sV x2] from by rw [HSN.out, ← hx1, ← hx2]; simp)
                have c3 := (HWB.out.1.cell (p := ⟨w.heap.size, 3, none⟩) (by show w.heap.size < w.heap.size + 1; omega)).trans HC3.out
                have c4 := (HWB.out.1.cell (p := ⟨w.heap.size, 4, none⟩) (by show w.heap.size < w.heap.size + 1; omega)).trans HC4.out
                have hbw : w.heap.size < wo.heap.size := by have := HWB.out.2; omega
                have HS := hid (show ∀ W', Below wo.heap.size wo W' → (fun W' : World => W'.cell? ⟨w.heap.size, 3, none⟩ = some (.slice pA A.length cA) ∧ W'.cell? ⟨w.heap.size, 4, none⟩ = some (.slice pB B.length cB)) W' from fun W' h => ⟨(h.cell (p := ⟨w.heap.size, 3, none⟩) hbw).trans c3, (h.cell (p := ⟨w.heap.size, 4, none⟩) hbw).trans c4⟩)
                have hS : (fun W' : World => W'.cell? ⟨w.heap.size, 3, none⟩ = some (.slice pA A.length cA) ∧ W'.cell? ⟨w.heap.size, 4, none⟩ = some (.slice pB B.length cB)) wo.drew := ⟨c3, c4⟩
                clear hkp hcc4 HSN hx1 hx2
                generalize chans[j] = nmj at *
                go_wp2_with fail
                have hFa : ∀ f, Fence.wide.fn f := fun _ => trivial
                refine (wpIn_wide (n := 9)).1 ?_
                refine wpIn_onlyN ?_
                refine wpIn_region_HJ (fun W' : World => W'.cell? ⟨w.heap.size, 3, none⟩ = some (.slice pA A.length cA) ∧ W'.cell? ⟨w.heap.size, 4, none⟩ = some (.slice pB B.length cB)) 17 (by kernel_rfl) ?_
                simp only [List.size_toArray, List.length_cons, List.length_nil, Nat.reduceAdd]
                refine wpHJ_pure (v := ?va0) 0 hFa rfl (by kernel_rfl) (fun _ _ _ h => h.elim) (Or.inl ⟨by rfl, ?ya0⟩) (.inr hS) ?ra0
                case ya0 => (intro w' _; go_simp; try rfl)
                simp only [Act.put, List.getElem_toArray, List.getElem_cons_succ, List.getElem_cons_zero, List.setIfInBounds_toArray, List.set_cons_zero, List.set_cons_succ]
                refine wpHJ_pure (v := ?va1) 1 hFa rfl (by kernel_rfl) (fun _ _ _ h => h.elim) (Or.inl ⟨by rfl, ?ya1⟩) (.inr hS) ?ra1
                case ya1 => (intro w' _; go_simp; try rfl)
                simp only [Act.put, List.getElem_toArray, List.getElem_cons_succ, List.getElem_cons_zero, List.setIfInBounds_toArray, List.set_cons_zero, List.set_cons_succ]
                refine wpHJ_pure (v := ?va2) 2 hFa rfl (by kernel_rfl) (fun _ _ _ h => h.elim) (Or.inl ⟨by rfl, ?ya2⟩) (.inr hS) ?ra2
                case ya2 => (intro w' _; go_simp; try rfl)
                simp only [Act.put, List.getElem_toArray, List.getElem_cons_succ, List.getElem_cons_zero, List.setIfInBounds_toArray, List.set_cons_zero, List.set_cons_succ]
                refine wpHJ_pure (v := ?va3) 3 hFa rfl (by kernel_rfl) (fun _ _ _ h => h.elim) (Or.inl ⟨by rfl, ?ya3⟩) (.inr hS) ?ra3
                case ya3 => (intro w' _; go_simp; try rfl)
                simp only [Act.put, List.getElem_toArray, List.getElem_cons_succ, List.getElem_cons_zero, List.setIfInBounds_toArray, List.set_cons_zero, List.set_cons_succ]
                refine wpHJ_take (v := ?va4) 4 hFa rfl (by kernel_rfl) (fun _ _ _ h => h.elim) (Or.inl ⟨by rfl, ?ya4⟩) hS ?ra4
                case ya4 => (intro w' hS'; obtain ⟨s1, s2⟩ := hS'; go_simp; try rfl)
                simp only [Act.put, List.getElem_toArray, List.getElem_cons_succ, List.getElem_cons_zero, List.setIfInBounds_toArray, List.set_cons_zero, List.set_cons_succ]
                refine wpHJ_pure (v := ?va5) 5 hFa rfl (by kernel_rfl) (fun _ _ _ h => h.elim) (Or.inl ⟨by rfl, ?ya5⟩) (.inr hS) ?ra5
                case ya5 => (intro w' _; go_simp; try rfl)
                simp only [Act.put, List.getElem_toArray, List.getElem_cons_succ, List.getElem_cons_zero, List.setIfInBounds_toArray, List.set_cons_zero, List.set_cons_succ]
                refine wpHJ_pure (v := ?va8) 8 hFa rfl (by kernel_rfl) (fun _ _ _ h => h.elim) (Or.inl ⟨by rfl, ?ya8⟩) (.inr hS) ?ra8
                case ya8 => (intro w' _; go_simp; try rfl)
                simp only [Act.put, List.getElem_toArray, List.getElem_cons_succ, List.getElem_cons_zero, List.setIfInBounds_toArray, List.set_cons_zero, List.set_cons_succ]
                refine wpHJ_pure (v := ?va9) 9 hFa rfl (by kernel_rfl) (fun _ _ _ h => h.elim) (Or.inl ⟨by rfl, ?ya9⟩) (.inr hS) ?ra9
                case ya9 => (intro w' _; go_simp; try rfl)
                simp only [Act.put, List.getElem_toArray, List.getElem_cons_succ, List.getElem_cons_zero, List.setIfInBounds_toArray, List.set_cons_zero, List.set_cons_succ]
                refine wpHJ_pure (v := ?va10) 10 hFa rfl (by kernel_rfl) (fun _ _ _ h => h.elim) (Or.inl ⟨by rfl, ?ya10⟩) (.inr hS) ?ra10
                case ya10 => (intro w' _; go_simp; try rfl)
                simp only [Act.put, List.getElem_toArray, List.getElem_cons_succ, List.getElem_cons_zero, List.setIfInBounds_toArray, List.set_cons_zero, List.set_cons_succ]
                refine wpHJ_take (v := ?va11) 11 hFa rfl (by kernel_rfl) (fun _ _ _ h => h.elim) (Or.inl ⟨by rfl, ?ya11⟩) hS ?ra11
                case ya11 => (intro w' hS'; obtain ⟨s1, s2⟩ := hS'; go_simp; try rfl)
                simp only [Act.put, List.getElem_toArray, List.getElem_cons_succ, List.getElem_cons_zero, List.setIfInBounds_toArray, List.set_cons_zero, List.set_cons_succ]
                refine wpHJ_pure (v := ?va12) 12 hFa rfl (by kernel_rfl) (fun _ _ _ h => h.elim) (Or.inl ⟨by rfl, ?ya12⟩) (.inr hS) ?ra12
                case ya12 => (intro w' _; go_simp; try rfl)
                simp only [Act.put, List.getElem_toArray, List.getElem_cons_succ, List.getElem_cons_zero, List.setIfInBounds_toArray, List.set_cons_zero, List.set_cons_succ]
                clear hS
                have HBd := hid (show Below wo.heap.size wo wo.drew from ⟨rfl, rfl, rfl, Nat.le_refl _, fun _ _ => rfl⟩)
                generalize wo.drew = wd at *
                refine wpHJ_only 6 (by kernel_rfl) rfl ?_
                intro K hK
                go_simp
                (with_reducible refine (callsIn_wide.2 (HNA.out wd HBd.out)).mono ?_)
                rintro e w1 ⟨⟨ua, rfl, hua⟩, rfl⟩
                have HUA := hid hua
                clear hua
                refine hK _ _ (.inr (.inr (HS.out wd HBd.out))) ?_
                clear hK K
                refine wpHJ_only 7 (by kernel_rfl) rfl ?_
                intro K hK
                go_simp
                (with_reducible refine (callsIn_wide.2 (HR1.out ua wd HUA.out HBd.out)).mono ?_)
                rintro e w2 ⟨rfl, hb2⟩
                have HB2 := hid (HBd.out.trans (hb2.mono HBd.out.size))
                clear hb2
                refine hK _ _ (.inr (.inr (HS.out w2 HB2.out))) ?_
                clear hK K
                refine wpHJ_only 13 (by kernel_rfl) rfl ?_
                intro K hK
                go_simp
                (with_reducible refine (callsIn_wide.2 (HNB.out w2 HB2.out)).mono ?_)
                rintro e w3 ⟨⟨ub, rfl, hub⟩, rfl⟩
                have HUB := hid hub
                clear hub
                refine hK _ _ (.inr (.inr (HS.out w2 HB2.out))) ?_
                clear hK K
                refine wpHJ_only 14 (by kernel_rfl) rfl ?_
                intro K hK
                go_simp
                (with_reducible refine (callsIn_wide.2 (HR2.out ub w2 HUB.out HB2.out)).mono ?_)
                rintro e w4 ⟨rfl, hb4⟩
                have HB4 := hid (HB2.out.trans (hb4.mono HB2.out.size))
                clear hb4
                refine hK _ _ (.inr (.inr (HS.out w4 HB4.out))) ?_
                clear hK K
                refine wpHJ_only 15 (by kernel_rfl) rfl ?_
                intro K hK
                go_simp
                refine hK _ _ (.inr (.inr (HS.out _ (HB4.out.alloc HB4.out.size _)))) ?_
                clear hK K
                refine wpHJ_only 16 (by kernel_rfl) rfl ?_
                intro K hK
                rw [if_pos (by simp [Region.wanted, yielded])]
                refine wpIn_apd hFa (.tmp 61) (.tmp 76) 27 rfl (w.heap.size + 1) 9 (.string ⟨#[]⟩) 16 Tryd.underlying27 info_strL rfl (.slice po (1 + 2 * j) co2) (1 + 2 * j) _ rfl ((owns_keepL HO.out fun i hi => HB4.out.block i (HO.out.lt i hi).2).alloc _) (some ⟨w4.heap.size, 0, none⟩) 2 2 [sV x1, sV x2] rfl rfl (RowR.lit (R := fun _ => True) w4 [sV x1, sV x2] 9 trivial) (strs_oneC [x1, x2]) (by omega) (by unfold maxLen; omega) (by rw [World.size_alloc]; have := HB4.out.size; have := HWB.out.1.size; have := HWB.out.2; omega) ?_
                intro v5 w5 ho5 hg5 hv5
                simp only [Act.put, List.getElem_toArray, List.getElem_cons_succ, List.getElem_cons_zero, List.setIfInBounds_toArray, List.set_cons_zero, List.set_cons_succ]
                obtain ⟨p5, c5, rfl⟩ := owns_sliceL ho5
                have hb4s := HB4.out.size
                have hga := (World.grownBy_alloc w4 (.cells #[.string ⟨x1.toArray⟩, .string ⟨x2.toArray⟩] 9) (Value.slice po (1 + 2 * j) co2).ownBlock).trans hg5
                have hb5 : Below (w.heap.size + 1) W0 w5 := (HWB.out.1.trans (HB4.out.mono HWB.out.2)).grown hga (by have := HWB.out.2; omega) (fun i hi => (HO.out.lt i hi).1)
                have hS5 : (fun W' : World => W'.cell? ⟨w.heap.size, 3, none⟩ = some (.slice pA A.length cA) ∧ W'.cell? ⟨w.heap.size, 4, none⟩ = some (.slice pB B.length cB)) w5 := ⟨(hb5.cell (p := ⟨w.heap.size, 3, none⟩) (by show w.heap.size < w.heap.size + 1; omega)).trans HC3.out, (hb5.cell (p := ⟨w.heap.size, 4, none⟩) (by show w.heap.size < w.heap.size + 1; omega)).trans HC4.out⟩
                refine hK _ _ (.inr (.inr hS5)) ?_
                clear hK K
                refine wpHJ_only 17 (by kernel_rfl) rfl ?_
                intro K hK
                go_simp
                refine hK _ _ (.inl rfl) ?_
                clear hK K
                refine wpHJ_done (by kernel_rfl) ?_ _
                simp only [onlyN, Exit.then]
                clear hFa
                go_wp2
                have HO5 := hid (show w5.ownsRow (w.heap.size + 1) 9 1 (.slice p5 (1 + 2 * j + 2) c5) (1 + 2 * (j + 1)) ((FS :: chanR (⟨k, r, n, A, B, true, pol, ln, co, er⟩ : Vd) chans (j + 1)).map sV) from by rw [HSN2.out]; exact ho5)
                have HB5 := hid hb5
                have hs5 : w.heap.size + 1 ≤ w5.heap.size := by have := hga.size; have := HWB.out.2; omega
                go_roundw
                case rel => exact ⟨j + 1, by go_num, by omega, HO5.out, HB5.out, hs5⟩
                case measure => simp [intOf]; omega
              · obtain rfl : j = chans.length := by omega
                go_wp2
                go_ret2
                refine ⟨HB0.out.trans (HWB.out.1.mono (by omega)), po, co2, ?_, ?_⟩
                · rw [HV.out]; dsimp only; rw [List.length_cons, HCL.out]; rw [show 2 * chans.length + 1 = 1 + 2 * chans.length by omega]; rfl
                · rw [HV.out]
                  dsimp only
                  rw [List.length_cons, HCL.out, show 2 * chans.length + 1 = 1 + 2 * chans.length by omega]
                  exact Sl.of_owns HO.out (by omega) fun i hi => ⟨by have := (HO.out.lt i hi).1; omega, owns_sft HO.out i hi⟩
          | false =>
            have hnl : n < levels.length := by omega
            obtain ⟨bl, ol, rfl, hRl, hccl⟩ := hrl.atS n hnl
            have hcell := (hb0.cell (p := ⟨bl, ol + n, none⟩) (hR _ hRl)).trans (hccl n hnl)
            have hnm : levels[n].length ≤ 140737488355328 := hls _ (List.getElem_mem hnl)
            have zn := size_mkS levels[n]
            have zh := size_mkS ([101, 120, 112, 108, 105, 99, 105, 116] : By)
            obtain ⟨FS, hFS⟩ : ∃ s, wLeak ++ ([32, 97, 116, 32] : By) ++ levels[n] ++ ([32] : By) ++ ([101, 120, 112, 108, 105, 99, 105, 116] : By) = s := ⟨_, rfl⟩
            have HV := hid (show leakR (⟨k, r, n, A, B, false, pol, ln, co, er⟩ : Vd) levels chans = (FS :: chanR (⟨k, r, n, A, B, false, pol, ln, co, er⟩ : Vd) chans chans.length, 0) from by
              unfold leakR
              rw [if_neg (by dsimp only; omega), if_neg (by dsimp only; omega), ← hFS]
              have e : levels.getD n [] = levels[n] := by unfold List.getD; rw [List.getElem?_eq_getElem hnl]; rfl
              simp only [Int.toNat_natCast, e, wHow]; rfl)
            have HFS := hid hFS
            have HT := hid ht
            have HNA0 := hid hA; have HNB0 := hid hB; have HRC := hid hrc; have HCS := hid hcs; have HAn := hid hAn; have HBn := hid hBn
            clear hvl hvc hA hB hAn hBn hls hcs ht hrl hrc hccl hFS
            obtain ⟨nm, hnme⟩ : ∃ s, levels[n] = s := ⟨_, rfl⟩
            rw [hnme] at hcell hnm zn HFS
            clear hnme
            obtain ⟨W0, hW0⟩ : ∃ W, w.alloc (.cells #[.int .u8 (k : Int), .int .u8 (r : Int), .int .i64 (n : Int), .slice pA A.length cA, .slice pB B.length cB, .bool false, .bool pol, .int .i64 ln, .int .i64 co, .int .i64 er] 35) = W := ⟨_, rfl⟩
            rw [hW0] at HB0 hb0
            have hcb : W0.heap[w.heap.size]? = some (.cells #[.int .u8 (k : Int), .int .u8 (r : Int), .int .i64 (n : Int), .slice pA A.length cA, .slice pB B.length cB, .bool false, .bool pol, .int .i64 ln, .int .i64 co, .int .i64 er] 35 (0, 0)) := by rw [← hW0, heap_al, if_pos rfl]
            have hsz0 : W0.heap.size = w.heap.size + 1 := by rw [← hW0, World.size_alloc]
            have HSZ0 := hid hsz0
            have c2 : W0.cell? ⟨w.heap.size, 2, none⟩ = some (.int .i64 (n : Int)) := by rw [cell_of_row W0 _ 2 _ _ _ hcb]; rfl
            have c3 : W0.cell? ⟨w.heap.size, 3, none⟩ = some (.slice pA A.length cA) := by rw [cell_of_row W0 _ 3 _ _ _ hcb]; rfl
            have c4 : W0.cell? ⟨w.heap.size, 4, none⟩ = some (.slice pB B.length cB) := by rw [cell_of_row W0 _ 4 _ _ _ hcb]; rfl
            have c5 : W0.cell? ⟨w.heap.size, 5, none⟩ = some (.bool false) := by rw [cell_of_row W0 _ 5 _ _ _ hcb]; rfl
            have HC3 := hid c3; have HC4 := hid c4
            have HWW := hid hW0
            have a3 : ¬ chans.length < A.length := h3
            have a4 : ¬ chans.length < B.length := h4
            clear hcb hW0 hb0 hsz0
            have HCAT := hid (show (⟨#[76, 69, 65, 75, 32, 97, 116, 32]⟩ : ByteArray) ++ ⟨nm.toArray⟩ ++ ⟨#[32]⟩ ++ ⟨#[101, 120, 112, 108, 105, 99, 105, 116]⟩ = ⟨FS.toArray⟩ from by rw [← HFS.out]; exact catLk nm ([101, 120, 112, 108, 105, 99, 105, 116] : By))
            go_enter Tryd.func38, Tryd.ntmps38
            go_wp2_with fail
            rw [HWW.out, HCAT.out]
            clear c2 c5 hcell zn zh HFS HCAT a3 a4 hnm
            have ho0 : (W0.alloc (.cells #[.string ⟨FS.toArray⟩] 9)).ownsRow (w.heap.size + 1) 9 1 (.slice (some ⟨W0.heap.size, 0, none⟩) 1 1) 1 [sV FS] := World.ownsRow_lit (base := w.heap.size + 1) (e := 9) (size := 1) W0 #[.string ⟨FS.toArray⟩] 1 (by rw [HSZ0.out]; exact Nat.le_refl _) (by unfold maxLen; omega) rfl
            rw [HSZ0.out] at ho0
            have hw1 : Below (w.heap.size + 1) W0 (W0.alloc (.cells #[.string ⟨FS.toArray⟩] 9)) ∧ w.heap.size + 1 ≤ (W0.alloc (.cells #[.string ⟨FS.toArray⟩] 9)).heap.size := ⟨(Below.refl _ _).alloc (by rw [HSZ0.out]; exact Nat.le_refl _) _, by rw [World.size_alloc, HSZ0.out]; omega⟩
            have HO0 := hid ho0; have HW1 := hid hw1
            clear ho0 hw1
            generalize W0.alloc _ = W1 at *
            have hch0 := chanR_len (⟨k, r, n, A, B, false, pol, ln, co, er⟩ : Vd) chans
            have HCL := hid hch0
            clear hch0
            go_loopw [9, 10, 11, 56] (fun ov iv nv xv W => ∃ j : Nat, xv = .int .i64 j ∧ j ≤ chans.length ∧ W.ownsRow (w.heap.size + 1) 9 1 ov (1 + 2 * j) ((FS :: chanR (⟨k, r, n, A, B, false, pol, ln, co, er⟩ : Vd) chans j).map sV) ∧ Below (w.heap.size + 1) W0 W ∧ w.heap.size + 1 ≤ W.heap.size) (fun _ _ _ xv _ => chans.length - (intOf xv).toNat)
            case atStart => exact ⟨0, rfl, Nat.zero_le _, HO0.out, HW1.out.1, HW1.out.2⟩
            case round =>
              obtain ⟨j, rfl, hj, ho, hwb⟩ := hrel
              obtain ⟨wo, rfl⟩ : ∃ wo : World, wo = wr := ⟨_, rfl⟩
              obtain ⟨po, co2, rfl⟩ := owns_sliceL ho
              have HO := hid ho; have HWB := hid hwb
              clear ho hwb
              by_cases hjl : j < chans.length
              · obtain ⟨b4, o4, rfl, hR4, hcc4⟩ := HRC.out.atS j hjl
                have hkp : ∀ W, Below wo.heap.size wo W → ∀ i, i < w.heap.size → W.heap[i]? = w.heap[i]? := fun W hW i hi => (hW.block i (by have := HWB.out.2; omega)).trans ((HWB.out.1.block i (by omega)).trans (HB0.out.block i hi))
                have hnc : wo.cell? ⟨b4, o4 + j, none⟩ = some (.string ⟨(chans[j]).toArray⟩) := (World.cell?_of_block (a := ⟨b4, o4 + j, none⟩) (hkp wo (Below.refl _ _) b4 (hR _ hR4))).trans (hcc4 j hjl)
                have hcn := HCS.out _ (List.getElem_mem hjl)
                have HSN := hid (chanR_snoc (⟨k, r, n, A, B, false, pol, ln, co, er⟩ : Vd) chans j hjl)
                have HTW := hid (fun W (hW : Below wo.heap.size wo W) => tab_below (B := w.heap.size) (w := w) (w' := W) ⟨hW.os.trans (HWB.out.1.os.trans HB0.out.os), hW.tape.trans (HWB.out.1.tape.trans HB0.out.tape), hW.output.trans (HWB.out.1.output.trans HB0.out.output), by have := hW.size; have := HWB.out.2; omega, fun i hi => hkp W hW i hi⟩ (Nat.le_refl _) HT.out.pow)
                obtain ⟨x1, hx1⟩ : ∃ x, rowR wFirst chans[j] (atL A j) = x := ⟨_, rfl⟩
                obtain ⟨x2, hx2⟩ : ∃ x, rowR wSecond chans[j] (atL B j) = x := ⟨_, rfl⟩
                have HNA := hid (fun W (hW : Below wo.heap.size wo W) => at_any A (.slice pA A.length cA) j (fun i => i < w.heap.size) W (HNA0.out.keep fun i hi => ⟨hR i hi, hkp W hW i (hR i hi)⟩) (by omega))
                have HNB := hid (fun W (hW : Below wo.heap.size wo W) => at_any B (.slice pB B.length cB) j (fun i => i < w.heap.size) W (HNB0.out.keep fun i hi => ⟨hR i hi, hkp W hW i (hR i hi)⟩) (by omega))
                have HR1 := hid (fun u W (hu : Nums (fun i => i < w.heap.size) W u (atL A j)) (hW : Below wo.heap.size wo W) => show Calls Tryd.prog 48 #[.string ⟨#[102, 105, 114, 115, 116]⟩, .string ⟨(chans[j]).toArray⟩, u] W fun e w' => e = .returned (.string ⟨x1.toArray⟩) ∧ Below W.heap.size W w' from by
                  rw [← hx1]; exact row_any wFirst chans[j] (atL A j) u _ W hu (fun i hi => by have := hW.size; have := HWB.out.2; omega) (atL_le HAn.out j) (by decide) hcn (HTW.out W hW))
                have HR2 := hid (fun u W (hu : Nums (fun i => i < w.heap.size) W u (atL B j)) (hW : Below wo.heap.size wo W) => show Calls Tryd.prog 48 #[.string ⟨#[115, 101, 99, 111, 110, 100]⟩, .string ⟨(chans[j]).toArray⟩, u] W fun e w' => e = .returned (.string ⟨x2.toArray⟩) ∧ Below W.heap.size W w' from by
                  rw [← hx2]; exact row_any wSecond chans[j] (atL B j) u _ W hu (fun i hi => by have := hW.size; have := HWB.out.2; omega) (atL_le HBn.out j) (by decide) hcn (HTW.out W hW))
                have HSN2 := hid (show (FS :: chanR (⟨k, r, n, A, B, false, pol, ln, co, er⟩ : Vd) chans (j + 1)).map sV = (FS :: chanR (⟨k, r, n, A, B, false, pol, ln, co, er⟩ : Vd) chans j).map sV ++ [sV x1, sV x2] from by rw [HSN.out, ← hx1, ← hx2]; simp)
                have c3 := (HWB.out.1.cell (p := ⟨w.heap.size, 3, none⟩) (by show w.heap.size < w.heap.size + 1; omega)).trans HC3.out
                have c4 := (HWB.out.1.cell (p := ⟨w.heap.size, 4, none⟩) (by show w.heap.size < w.heap.size + 1; omega)).trans HC4.out
                have hbw : w.heap.size < wo.heap.size := by have := HWB.out.2; omega
                have HS := hid (show ∀ W', Below wo.heap.size wo W' → (fun W' : World => W'.cell? ⟨w.heap.size, 3, none⟩ = some (.slice pA A.length cA) ∧ W'.cell? ⟨w.heap.size, 4, none⟩ = some (.slice pB B.length cB)) W' from fun W' h => ⟨(h.cell (p := ⟨w.heap.size, 3, none⟩) hbw).trans c3, (h.cell (p := ⟨w.heap.size, 4, none⟩) hbw).trans c4⟩)
                have hS : (fun W' : World => W'.cell? ⟨w.heap.size, 3, none⟩ = some (.slice pA A.length cA) ∧ W'.cell? ⟨w.heap.size, 4, none⟩ = some (.slice pB B.length cB)) wo.drew := ⟨c3, c4⟩
                clear hkp hcc4 HSN hx1 hx2
                generalize chans[j] = nmj at *
                go_wp2_with fail
                have hFa : ∀ f, Fence.wide.fn f := fun _ => trivial
                refine (wpIn_wide (n := 9)).1 ?_
                refine wpIn_onlyN ?_
                refine wpIn_region_HJ (fun W' : World => W'.cell? ⟨w.heap.size, 3, none⟩ = some (.slice pA A.length cA) ∧ W'.cell? ⟨w.heap.size, 4, none⟩ = some (.slice pB B.length cB)) 17 (by kernel_rfl) ?_
                simp only [List.size_toArray, List.length_cons, List.length_nil, Nat.reduceAdd]
                refine wpHJ_pure (v := ?vb0) 0 hFa rfl (by kernel_rfl) (fun _ _ _ h => h.elim) (Or.inl ⟨by rfl, ?yb0⟩) (.inr hS) ?rb0
                case yb0 => (intro w' _; go_simp; try rfl)
                simp only [Act.put, List.getElem_toArray, List.getElem_cons_succ, List.getElem_cons_zero, List.setIfInBounds_toArray, List.set_cons_zero, List.set_cons_succ]
                refine wpHJ_pure (v := ?vb1) 1 hFa rfl (by kernel_rfl) (fun _ _ _ h => h.elim) (Or.inl ⟨by rfl, ?yb1⟩) (.inr hS) ?rb1
                case yb1 => (intro w' _; go_simp; try rfl)
                simp only [Act.put, List.getElem_toArray, List.getElem_cons_succ, List.getElem_cons_zero, List.setIfInBounds_toArray, List.set_cons_zero, List.set_cons_succ]
                refine wpHJ_pure (v := ?vb2) 2 hFa rfl (by kernel_rfl) (fun _ _ _ h => h.elim) (Or.inl ⟨by rfl, ?yb2⟩) (.inr hS) ?rb2
                case yb2 => (intro w' _; go_simp; try rfl)
                simp only [Act.put, List.getElem_toArray, List.getElem_cons_succ, List.getElem_cons_zero, List.setIfInBounds_toArray, List.set_cons_zero, List.set_cons_succ]
                refine wpHJ_pure (v := ?vb3) 3 hFa rfl (by kernel_rfl) (fun _ _ _ h => h.elim) (Or.inl ⟨by rfl, ?yb3⟩) (.inr hS) ?rb3
                case yb3 => (intro w' _; go_simp; try rfl)
                simp only [Act.put, List.getElem_toArray, List.getElem_cons_succ, List.getElem_cons_zero, List.setIfInBounds_toArray, List.set_cons_zero, List.set_cons_succ]
                refine wpHJ_take (v := ?vb4) 4 hFa rfl (by kernel_rfl) (fun _ _ _ h => h.elim) (Or.inl ⟨by rfl, ?yb4⟩) hS ?rb4
                case yb4 => (intro w' hS'; obtain ⟨s1, s2⟩ := hS'; go_simp; try rfl)
                simp only [Act.put, List.getElem_toArray, List.getElem_cons_succ, List.getElem_cons_zero, List.setIfInBounds_toArray, List.set_cons_zero, List.set_cons_succ]
                refine wpHJ_pure (v := ?vb5) 5 hFa rfl (by kernel_rfl) (fun _ _ _ h => h.elim) (Or.inl ⟨by rfl, ?yb5⟩) (.inr hS) ?rb5
                case yb5 => (intro w' _; go_simp; try rfl)
                simp only [Act.put, List.getElem_toArray, List.getElem_cons_succ, List.getElem_cons_zero, List.setIfInBounds_toArray, List.set_cons_zero, List.set_cons_succ]
                refine wpHJ_pure (v := ?vb8) 8 hFa rfl (by kernel_rfl) (fun _ _ _ h => h.elim) (Or.inl ⟨by rfl, ?yb8⟩) (.inr hS) ?rb8
                case yb8 => (intro w' _; go_simp; try rfl)
                simp only [Act.put, List.getElem_toArray, List.getElem_cons_succ, List.getElem_cons_zero, List.setIfInBounds_toArray, List.set_cons_zero, List.set_cons_succ]
                refine wpHJ_pure (v := ?vb9) 9 hFa rfl (by kernel_rfl) (fun _ _ _ h => h.elim) (Or.inl ⟨by rfl, ?yb9⟩) (.inr hS) ?rb9
                case yb9 => (intro w' _; go_simp; try rfl)
                simp only [Act.put, List.getElem_toArray, List.getElem_cons_succ, List.getElem_cons_zero, List.setIfInBounds_toArray, List.set_cons_zero, List.set_cons_succ]
                refine wpHJ_pure (v := ?vb10) 10 hFa rfl (by kernel_rfl) (fun _ _ _ h => h.elim) (Or.inl ⟨by rfl, ?yb10⟩) (.inr hS) ?rb10
                case yb10 => (intro w' _; go_simp; try rfl)
                simp only [Act.put, List.getElem_toArray, List.getElem_cons_succ, List.getElem_cons_zero, List.setIfInBounds_toArray, List.set_cons_zero, List.set_cons_succ]
                refine wpHJ_take (v := ?vb11) 11 hFa rfl (by kernel_rfl) (fun _ _ _ h => h.elim) (Or.inl ⟨by rfl, ?yb11⟩) hS ?rb11
                case yb11 => (intro w' hS'; obtain ⟨s1, s2⟩ := hS'; go_simp; try rfl)
                simp only [Act.put, List.getElem_toArray, List.getElem_cons_succ, List.getElem_cons_zero, List.setIfInBounds_toArray, List.set_cons_zero, List.set_cons_succ]
                refine wpHJ_pure (v := ?vb12) 12 hFa rfl (by kernel_rfl) (fun _ _ _ h => h.elim) (Or.inl ⟨by rfl, ?yb12⟩) (.inr hS) ?rb12
                case yb12 => (intro w' _; go_simp; try rfl)
                simp only [Act.put, List.getElem_toArray, List.getElem_cons_succ, List.getElem_cons_zero, List.setIfInBounds_toArray, List.set_cons_zero, List.set_cons_succ]
                clear hS
                have HBd := hid (show Below wo.heap.size wo wo.drew from ⟨rfl, rfl, rfl, Nat.le_refl _, fun _ _ => rfl⟩)
                generalize wo.drew = wd at *
                refine wpHJ_only 6 (by kernel_rfl) rfl ?_
                intro K hK
                go_simp
                (with_reducible refine (callsIn_wide.2 (HNA.out wd HBd.out)).mono ?_)
                rintro e w1 ⟨⟨ua, rfl, hua⟩, rfl⟩
                have HUA := hid hua
                clear hua
                refine hK _ _ (.inr (.inr (HS.out wd HBd.out))) ?_
                clear hK K
                refine wpHJ_only 7 (by kernel_rfl) rfl ?_
                intro K hK
                go_simp
                (with_reducible refine (callsIn_wide.2 (HR1.out ua wd HUA.out HBd.out)).mono ?_)
                rintro e w2 ⟨rfl, hb2⟩
                have HB2 := hid (HBd.out.trans (hb2.mono HBd.out.size))
                clear hb2
                refine hK _ _ (.inr (.inr (HS.out w2 HB2.out))) ?_
                clear hK K
                refine wpHJ_only 13 (by kernel_rfl) rfl ?_
                intro K hK
                go_simp
                (with_reducible refine (callsIn_wide.2 (HNB.out w2 HB2.out)).mono ?_)
                rintro e w3 ⟨⟨ub, rfl, hub⟩, rfl⟩
                have HUB := hid hub
                clear hub
                refine hK _ _ (.inr (.inr (HS.out w2 HB2.out))) ?_
                clear hK K
                refine wpHJ_only 14 (by kernel_rfl) rfl ?_
                intro K hK
                go_simp
                (with_reducible refine (callsIn_wide.2 (HR2.out ub w2 HUB.out HB2.out)).mono ?_)
                rintro e w4 ⟨rfl, hb4⟩
                have HB4 := hid (HB2.out.trans (hb4.mono HB2.out.size))
                clear hb4
                refine hK _ _ (.inr (.inr (HS.out w4 HB4.out))) ?_
                clear hK K
                refine wpHJ_only 15 (by kernel_rfl) rfl ?_
                intro K hK
                go_simp
                refine hK _ _ (.inr (.inr (HS.out _ (HB4.out.alloc HB4.out.size _)))) ?_
                clear hK K
                refine wpHJ_only 16 (by kernel_rfl) rfl ?_
                intro K hK
                rw [if_pos (by simp [Region.wanted, yielded])]
                refine wpIn_apd hFa (.tmp 61) (.tmp 76) 27 rfl (w.heap.size + 1) 9 (.string ⟨#[]⟩) 16 Tryd.underlying27 info_strL rfl (.slice po (1 + 2 * j) co2) (1 + 2 * j) _ rfl ((owns_keepL HO.out fun i hi => HB4.out.block i (HO.out.lt i hi).2).alloc _) (some ⟨w4.heap.size, 0, none⟩) 2 2 [sV x1, sV x2] rfl rfl (RowR.lit (R := fun _ => True) w4 [sV x1, sV x2] 9 trivial) (strs_oneC [x1, x2]) (by omega) (by unfold maxLen; omega) (by rw [World.size_alloc]; have := HB4.out.size; have := HWB.out.1.size; have := HWB.out.2; omega) ?_
                intro v5 w5 ho5 hg5 hv5
                simp only [Act.put, List.getElem_toArray, List.getElem_cons_succ, List.getElem_cons_zero, List.setIfInBounds_toArray, List.set_cons_zero, List.set_cons_succ]
                obtain ⟨p5, c5, rfl⟩ := owns_sliceL ho5
                have hb4s := HB4.out.size
                have hga := (World.grownBy_alloc w4 (.cells #[.string ⟨x1.toArray⟩, .string ⟨x2.toArray⟩] 9) (Value.slice po (1 + 2 * j) co2).ownBlock).trans hg5
                have hb5 : Below (w.heap.size + 1) W0 w5 := (HWB.out.1.trans (HB4.out.mono HWB.out.2)).grown hga (by have := HWB.out.2; omega) (fun i hi => (HO.out.lt i hi).1)
                have hS5 : (fun W' : World => W'.cell? ⟨w.heap.size, 3, none⟩ = some (.slice pA A.length cA) ∧ W'.cell? ⟨w.heap.size, 4, none⟩ = some (.slice pB B.length cB)) w5 := ⟨(hb5.cell (p := ⟨w.heap.size, 3, none⟩) (by show w.heap.size < w.heap.size + 1; omega)).trans HC3.out, (hb5.cell (p := ⟨w.heap.size, 4, none⟩) (by show w.heap.size < w.heap.size + 1; omega)).trans HC4.out⟩
                refine hK _ _ (.inr (.inr hS5)) ?_
                clear hK K
                refine wpHJ_only 17 (by kernel_rfl) rfl ?_
                intro K hK
                go_simp
                refine hK _ _ (.inl rfl) ?_
                clear hK K
                refine wpHJ_done (by kernel_rfl) ?_ _
                simp only [onlyN, Exit.then]
                clear hFa
                go_wp2
                have HO5 := hid (show w5.ownsRow (w.heap.size + 1) 9 1 (.slice p5 (1 + 2 * j + 2) c5) (1 + 2 * (j + 1)) ((FS :: chanR (⟨k, r, n, A, B, false, pol, ln, co, er⟩ : Vd) chans (j + 1)).map sV) from by rw [HSN2.out]; exact ho5)
                have HB5 := hid hb5
                have hs5 : w.heap.size + 1 ≤ w5.heap.size := by have := hga.size; have := HWB.out.2; omega
                go_roundw
                case rel => exact ⟨j + 1, by go_num, by omega, HO5.out, HB5.out, hs5⟩
                case measure => simp [intOf]; omega
              · obtain rfl : j = chans.length := by omega
                go_wp2
                go_ret2
                refine ⟨HB0.out.trans (HWB.out.1.mono (by omega)), po, co2, ?_, ?_⟩
                · rw [HV.out]; dsimp only; rw [List.length_cons, HCL.out]; rw [show 2 * chans.length + 1 = 1 + 2 * chans.length by omega]; rfl
                · rw [HV.out]
                  dsimp only
                  rw [List.length_cons, HCL.out, show 2 * chans.length + 1 = 1 + 2 * chans.length by omega]
                  exact Sl.of_owns HO.out (by omega) fun i hi => ⟨by have := (HO.out.lt i hi).1; omega, owns_sft HO.out i hi⟩

end Go.Proofs.YtehjfmbnebeioaaDoor
