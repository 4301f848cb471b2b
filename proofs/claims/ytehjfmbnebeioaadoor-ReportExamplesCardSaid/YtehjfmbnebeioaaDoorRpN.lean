/-
  The walk of package report's Lines.
-/
import Derived.Test.YtehjfmbnebeioaaDoorRpK
namespace Go.Proofs.YtehjfmbnebeioaaDoor
set_option linter.unusedSimpArgs false
set_option linter.unusedVariables false
open Go.RowKit Go.Shelf
attribute [local go_sem] Oper.semAt_some

theorem vpost_from {r : List By × Int} {w W : World} {e : Ending} {w' : World} (hb : Below w.heap.size w W) (h : VPost r W e w') : VPost r w e w' := by
  obtain ⟨h1, p, c, he, hs⟩ := h
  exact ⟨hb.trans (h1.mono hb.size), p, c, he, hs.keep fun i hi => ⟨⟨by have := hb.size; omega, hi.2⟩, rfl⟩⟩
theorem load_vd (W : World) (g : Nat) (a b c d e f h i j l : Value) (hg : W.heap[g]? = some (.cells #[a, b, c, d, e, f, h, i, j, l] 35 (0, 0))) : (Instr.loadAt 35 (.pointer (some ⟨g, 0, none⟩))).run Tryd.prog W = .ok (.agg #[a, b, c, d, e, f, h, i, j, l]) W := by
  have hq : (match Tryd.prog.underlying 35 with | some d => (match d with | .struct _ | .array _ _ => true | _ => false) | none => false) = true := by kernel_rfl
  have hi : (Tryd.prog.info? 35).map (·.size) = some 10 := by kernel_rfl
  cases hU : Tryd.prog.underlying 35 with
  | none => rw [hU] at hq; cases hq
  | some d0 =>
    rw [hU] at hq
    cases d0 <;> first
      | (simp only [Instr.loadAt, Instr.sureAddr, Sem.run_bind, Sem.run_pure, Result.andThen_ok, run_loadVar_row W g 35 35 #[a, b, c, d, e, f, h, i, j, l] (0, 0) _ hg hU rfl hi])
      | (simp at hq)

set_option maxRecDepth 100000 in
set_option maxHeartbeats 8000000 in
theorem lines_k0 (r : Nat) (lv : Int) (A B : List (List Nat)) (imp pol : Bool) (ln co er : Int) (pA pB : Option Addr) (cA cB : Nat) (levels chans : List By) (vl vc : Value) (R : Nat → Prop) (w : World) (hvl : Strs R w vl levels) (hvc : Strs R w vc chans) (hA : NLL R w (.slice pA A.length cA) A) (hB : NLL R w (.slice pB B.length cB) B) (hR : ∀ i, R i → i < w.heap.size)
    (hr : r ≤ 255) (hAn : ∀ l ∈ A, ∀ x ∈ l, x ≤ 18446744073709551615) (hBn : ∀ l ∈ B, ∀ x ∈ l, x ≤ 18446744073709551615) (hlv : -9223372036854775808 ≤ lv ∧ lv ≤ 9223372036854775807) (hln : -9223372036854775808 ≤ ln ∧ ln ≤ 9223372036854775807) (hco : -9223372036854775808 ≤ co ∧ co ≤ 9223372036854775807) (hls : ∀ s ∈ levels, s.length ≤ 140737488355328) (hcs : ∀ s ∈ chans, s.length ≤ 140737488355328) (hcl : chans.length ≤ 1000000) (ht : Tabs w) :
    Calls Tryd.prog 15 #[.agg #[.int .u8 0, .int .u8 (r : Int), .int .i64 lv, .slice pA A.length cA, .slice pB B.length cB, .bool imp, .bool pol, .int .i64 ln, .int .i64 co, .int .i64 er], vl, vc] w (VPost (vlinesR (⟨0, r, lv, A, B, imp, pol, ln, co, er⟩ : Vd) levels chans) w) := by
  have hb0 : Below w.heap.size w (w.alloc (.cells #[.int .u8 0, .int .u8 (r : Int), .int .i64 lv, .slice pA A.length cA, .slice pB B.length cB, .bool imp, .bool pol, .int .i64 ln, .int .i64 co, .int .i64 er] 35)) := (Below.refl _ _).alloc (Nat.le_refl _) _
  have HB0 := hid hb0
  obtain ⟨b, hbq⟩ : ∃ b, bareR (⟨0, r, lv, A, B, imp, pol, ln, co, er⟩ : Vd) = b := ⟨_, rfl⟩
  have HBA := hid (fun W => bare_any0 0 r lv A B A.length B.length imp pol ln co er pA pB cA cB W rfl rfl)
  rw [hbq] at HBA
  have a1 : decide ((3:Int) < 0) = false := by decide
  have hkv : ∀ w, (Instr.index 55 kindsV (.int .u8 0)).run Tryd.prog w = .ok (.agg #[.string ⟨wSecure.toArray⟩, .func (.func 37) #[] #[]]) w := fun _ => by kernel_rfl
  have hfl : ∀ w, (Instr.field 54 (.agg #[.string ⟨wSecure.toArray⟩, .func (.func 37) #[] #[]]) 1).run Tryd.prog w = .ok (.func (.func 37) #[] #[]) w := fun _ => by kernel_rfl
  unfold kindsV at hkv
  unfold wSecure wLeak wInc wReject at hkv
  unfold wSecure at hfl
  have hcb0 : (w.alloc (.cells #[.int .u8 0, .int .u8 (r : Int), .int .i64 lv, .slice pA A.length cA, .slice pB B.length cB, .bool imp, .bool pol, .int .i64 ln, .int .i64 co, .int .i64 er] 35)).heap[w.heap.size]? = some (.cells #[.int .u8 0, .int .u8 (r : Int), .int .i64 lv, .slice pA A.length cA, .slice pB B.length cB, .bool imp, .bool pol, .int .i64 ln, .int .i64 co, .int .i64 er] 35 (0, 0)) := by rw [heap_al, if_pos rfl]
  have hld := load_vd _ _ _ _ _ _ _ _ _ _ _ _ hcb0
  have HVL := hid hvl; have HVC := hid hvc; have HNA0 := hid hA; have HNB0 := hid hB; have HAn := hid hAn; have HBn := hid hBn; have HLS := hid hls; have HCS := hid hcs; have HT := hid (ht.below hb0)
  have HCB := hid hcb0
  have HR := hid hR
  clear hvl hvc hA hB hAn hBn hls hcs ht hcb0 hb0 hR
  have HBQ := hid hbq
  clear hbq
  cases b with
  | false =>
    have HV := hid (show vlinesR (⟨0, r, lv, A, B, imp, pol, ln, co, er⟩ : Vd) levels chans = ([], 2) from by unfold vlinesR; rw [if_neg (by dsimp only; omega), if_pos HBQ.out])
    go_enter Tryd.func15, Tryd.ntmps15
    go_wp2_with (go_at_call 31; refine (HBA.out _).mono ?_; rintro e w1 ⟨rfl, hb1⟩)
    go_ret2
    exact vpost_nil HV.out (HB0.out.trans (hb1.mono HB0.out.size))
  | true =>
    have HV := hid (show vlinesR (⟨0, r, lv, A, B, imp, pol, ln, co, er⟩ : Vd) levels chans = plainR (⟨0, r, lv, A, B, imp, pol, ln, co, er⟩ : Vd) from by unfold vlinesR; rw [if_neg (by dsimp only; omega), if_neg (by rw [HBQ.out]; decide)]; rfl)
    have HRV : ∃ rv, plainR (⟨0, r, lv, A, B, imp, pol, ln, co, er⟩ : Vd) = rv := ⟨_, rfl⟩
    have HCALL0 := hid (fun W (hW : Below (w.alloc (.cells #[.int .u8 0, .int .u8 (r : Int), .int .i64 lv, .slice pA A.length cA, .slice pB B.length cB, .bool imp, .bool pol, .int .i64 ln, .int .i64 co, .int .i64 er] 35)).heap.size (w.alloc (.cells #[.int .u8 0, .int .u8 (r : Int), .int .i64 lv, .slice pA A.length cA, .slice pB B.length cB, .bool imp, .bool pol, .int .i64 ln, .int .i64 co, .int .i64 er] 35)) W) => show Calls Tryd.prog 37 #[.agg #[.int .u8 0, .int .u8 (r : Int), .int .i64 lv, .slice pA A.length cA, .slice pB B.length cB, .bool imp, .bool pol, .int .i64 ln, .int .i64 co, .int .i64 er], vl, vc] W (VPost (plainR (⟨0, r, lv, A, B, imp, pol, ln, co, er⟩ : Vd)) W) from by
      have hR := HR.out
      have hkp : ∀ i, i < w.heap.size → W.heap[i]? = w.heap[i]? := fun i hi => (hW.block i (by rw [World.size_alloc]; omega)).trans (HB0.out.block i hi)
      exact plainL_any 0 r lv A B imp pol ln co er pA pB cA cB vl vc W (by omega) hr (HT.out.below hW))
    obtain ⟨rv, hrv⟩ := HRV
    rw [hrv] at HCALL0
    rw [hrv] at HV
    obtain ⟨W0, hW0⟩ : ∃ W, w.alloc (.cells #[.int .u8 0, .int .u8 (r : Int), .int .i64 lv, .slice pA A.length cA, .slice pB B.length cB, .bool imp, .bool pol, .int .i64 ln, .int .i64 co, .int .i64 er] 35) = W := ⟨_, rfl⟩
    have HWW := hid hW0
    clear hW0
    go_enter Tryd.func15, Tryd.ntmps15
    go_wp2_with (go_at_call 31; refine (HBA.out _).mono ?_; rintro e W1 ⟨rfl, hb1⟩)
    rw [HWW.out] at HB0 HCALL0 HCB hld hb1 HT
    have hcb1 := (hb1.block w.heap.size ((Array.getElem?_eq_some_iff.1 HCB.out).1)).trans HCB.out
    have HCALL := hid (fun W (hW : Below W1.heap.size W1 W) => HCALL0.out W (hb1.trans (hW.mono hb1.size)))
    have HB1 := hid (HB0.out.trans (hb1.mono HB0.out.size))
    have hl1 := (Array.getElem?_eq_some_iff.1 hcb1).1
    have HS := hid (show ∀ W', Below W1.heap.size W1 W' → (fun W' : World => W'.cell? ⟨w.heap.size, 0, none⟩ = some (.int .u8 0) ∧ W'.cell? ⟨w.heap.size, 1, none⟩ = some (.int .u8 (r : Int)) ∧ W'.cell? ⟨w.heap.size, 2, none⟩ = some (.int .i64 lv) ∧ W'.cell? ⟨w.heap.size, 3, none⟩ = some (.slice pA A.length cA) ∧ W'.cell? ⟨w.heap.size, 4, none⟩ = some (.slice pB B.length cB) ∧ W'.cell? ⟨w.heap.size, 5, none⟩ = some (.bool imp) ∧ W'.cell? ⟨w.heap.size, 6, none⟩ = some (.bool pol) ∧ W'.cell? ⟨w.heap.size, 7, none⟩ = some (.int .i64 ln) ∧ W'.cell? ⟨w.heap.size, 8, none⟩ = some (.int .i64 co) ∧ W'.cell? ⟨w.heap.size, 9, none⟩ = some (.int .i64 er)) W' from fun W' h => by
      have hc' := (h.block _ hl1).trans hcb1
      exact ⟨by rw [cell_of_row W' _ 0 _ _ _ hc']; rfl, by rw [cell_of_row W' _ 1 _ _ _ hc']; rfl, by rw [cell_of_row W' _ 2 _ _ _ hc']; rfl, by rw [cell_of_row W' _ 3 _ _ _ hc']; rfl, by rw [cell_of_row W' _ 4 _ _ _ hc']; rfl, by rw [cell_of_row W' _ 5 _ _ _ hc']; rfl, by rw [cell_of_row W' _ 6 _ _ _ hc']; rfl, by rw [cell_of_row W' _ 7 _ _ _ hc']; rfl, by rw [cell_of_row W' _ 8 _ _ _ hc']; rfl, by rw [cell_of_row W' _ 9 _ _ _ hc']; rfl⟩)
    have hS : (fun W' : World => W'.cell? ⟨w.heap.size, 0, none⟩ = some (.int .u8 0) ∧ W'.cell? ⟨w.heap.size, 1, none⟩ = some (.int .u8 (r : Int)) ∧ W'.cell? ⟨w.heap.size, 2, none⟩ = some (.int .i64 lv) ∧ W'.cell? ⟨w.heap.size, 3, none⟩ = some (.slice pA A.length cA) ∧ W'.cell? ⟨w.heap.size, 4, none⟩ = some (.slice pB B.length cB) ∧ W'.cell? ⟨w.heap.size, 5, none⟩ = some (.bool imp) ∧ W'.cell? ⟨w.heap.size, 6, none⟩ = some (.bool pol) ∧ W'.cell? ⟨w.heap.size, 7, none⟩ = some (.int .i64 ln) ∧ W'.cell? ⟨w.heap.size, 8, none⟩ = some (.int .i64 co) ∧ W'.cell? ⟨w.heap.size, 9, none⟩ = some (.int .i64 er)) W1.drew := HS.out _ ⟨rfl, rfl, rfl, Nat.le_refl _, fun _ _ => rfl⟩
    clear hb1 hcb1 hl1 hld
    have hFa : ∀ f, Fence.wide.fn f := fun _ => trivial
    refine (wpIn_wide (n := 9)).1 ?_
    refine wpIn_onlyN ?_
    refine wpIn_region_HJ (fun W' : World => W'.cell? ⟨w.heap.size, 0, none⟩ = some (.int .u8 0) ∧ W'.cell? ⟨w.heap.size, 1, none⟩ = some (.int .u8 (r : Int)) ∧ W'.cell? ⟨w.heap.size, 2, none⟩ = some (.int .i64 lv) ∧ W'.cell? ⟨w.heap.size, 3, none⟩ = some (.slice pA A.length cA) ∧ W'.cell? ⟨w.heap.size, 4, none⟩ = some (.slice pB B.length cB) ∧ W'.cell? ⟨w.heap.size, 5, none⟩ = some (.bool imp) ∧ W'.cell? ⟨w.heap.size, 6, none⟩ = some (.bool pol) ∧ W'.cell? ⟨w.heap.size, 7, none⟩ = some (.int .i64 ln) ∧ W'.cell? ⟨w.heap.size, 8, none⟩ = some (.int .i64 co) ∧ W'.cell? ⟨w.heap.size, 9, none⟩ = some (.int .i64 er)) 12 (by kernel_rfl) ?_
    simp only [List.size_toArray, List.length_cons, List.length_nil, Nat.reduceAdd]
    refine wpHJ_pure (v := ?vk01) 1 hFa rfl (by kernel_rfl) (fun _ _ _ h => h.elim) (Or.inl ⟨by rfl, ?yk01⟩) (.inr hS) ?rk01
    case yk01 => (intro w' _; go_simp; try rfl)
    simp only [Act.put, List.getElem_toArray, List.getElem_cons_succ, List.getElem_cons_zero, List.setIfInBounds_toArray, List.set_cons_zero, List.set_cons_succ]
    refine wpHJ_take (v := ?vk02) 2 hFa rfl (by kernel_rfl) (fun _ _ _ h => h.elim) (Or.inl ⟨by rfl, ?yk02⟩) hS ?rk02
    case yk02 => (intro w' hS'; obtain ⟨s0, s1, s2, s3, s4, s5, s6, s7, s8, s9⟩ := hS'; go_simp; try rfl)
    simp only [Act.put, List.getElem_toArray, List.getElem_cons_succ, List.getElem_cons_zero, List.setIfInBounds_toArray, List.set_cons_zero, List.set_cons_succ]
    refine wpHJ_take (v := ?vk05) 5 hFa rfl (by kernel_rfl) (fun _ _ _ h => h.elim) (Or.inl ⟨by rfl, ?yk05⟩) hS ?rk05
    case yk05 => (intro w' hS'; obtain ⟨s0, s1, s2, s3, s4, s5, s6, s7, s8, s9⟩ := hS'; go_simp; try rfl)
    simp only [Act.put, List.getElem_toArray, List.getElem_cons_succ, List.getElem_cons_zero, List.setIfInBounds_toArray, List.set_cons_zero, List.set_cons_succ]
    refine wpHJ_pure (v := ?vk06) 6 hFa rfl (by kernel_rfl) (fun _ _ _ h => h.elim) (Or.inl ⟨by rfl, ?yk06⟩) (.inr hS) ?rk06
    case yk06 => (intro w' _; go_simp; try rfl)
    simp only [Act.put, List.getElem_toArray, List.getElem_cons_succ, List.getElem_cons_zero, List.setIfInBounds_toArray, List.set_cons_zero, List.set_cons_succ]
    refine wpHJ_pure (v := ?vk07) 7 hFa rfl (by kernel_rfl) (fun _ _ _ h => h.elim) (Or.inl ⟨by rfl, ?yk07⟩) (.inr hS) ?rk07
    case yk07 => (intro w' _; go_simp; try rfl)
    simp only [Act.put, List.getElem_toArray, List.getElem_cons_succ, List.getElem_cons_zero, List.setIfInBounds_toArray, List.set_cons_zero, List.set_cons_succ]
    clear hS
    have HBd := hid (show Below W1.heap.size W1 W1.drew from ⟨rfl, rfl, rfl, Nat.le_refl _, fun _ _ => rfl⟩)
    generalize W1.drew = wd at *
    refine wpHJ_only 0 (by kernel_rfl) rfl ?_
    intro K hK
    go_simp
    (with_reducible refine (callsIn_wide.2 (kinds_any _)).mono ?_)
    unfold kindsV wSecure wLeak wInc wReject
    rintro e w2 ⟨rfl, hb2⟩
    have HB2 := hid (HBd.out.trans (hb2.mono HBd.out.size))
    clear hb2
    refine hK _ _ (.inr (.inr (HS.out w2 HB2.out))) ?_
    clear hK K
    refine wpHJ_pure (v := ?vk03) 3 hFa rfl (by kernel_rfl) (fun _ _ _ h => h.elim) (Or.inl ⟨by rfl, ?yk03⟩) (.inr (HS.out w2 HB2.out)) ?rk03
    case yk03 => (intro w' _; go_simp; try rfl)
    simp only [Act.put, List.getElem_toArray, List.getElem_cons_succ, List.getElem_cons_zero, List.setIfInBounds_toArray, List.set_cons_zero, List.set_cons_succ]
    refine wpHJ_pure (v := ?vk04) 4 hFa rfl (by kernel_rfl) (fun _ _ _ h => h.elim) (Or.inl ⟨by rfl, ?yk04⟩) (.inr (HS.out w2 HB2.out)) ?rk04
    case yk04 => (intro w' _; go_simp; try rfl)
    simp only [Act.put, List.getElem_toArray, List.getElem_cons_succ, List.getElem_cons_zero, List.setIfInBounds_toArray, List.set_cons_zero, List.set_cons_succ]
    refine wpHJ_only 8 (by kernel_rfl) rfl ?_
    intro K hK
    go_simp
    (with_reducible refine (callsIn_wide.2 (HCALL.out w2 HB2.out)).mono ?_)
    rintro e w3 hp3
    obtain ⟨hb3, p3, c3, rfl, hs3⟩ := hp3
    refine hK _ _ (.inr (.inr (HS.out w3 (HB2.out.trans (hb3.mono HB2.out.size))))) ?_
    clear hK K
    refine wpHJ_pure (v := ?vk09) 9 hFa rfl (by kernel_rfl) (fun _ _ _ h => h.elim) (Or.inl ⟨by rfl, ?yk09⟩) (.inr (HS.out w3 (HB2.out.trans (hb3.mono HB2.out.size)))) ?rk09
    case yk09 => (intro w' _; go_simp; try rfl)
    simp only [Act.put, List.getElem_toArray, List.getElem_cons_succ, List.getElem_cons_zero, List.setIfInBounds_toArray, List.set_cons_zero, List.set_cons_succ]
    refine wpHJ_pure (v := ?vk010) 10 hFa rfl (by kernel_rfl) (fun _ _ _ h => h.elim) (Or.inl ⟨by rfl, ?yk010⟩) (.inr (HS.out w3 (HB2.out.trans (hb3.mono HB2.out.size)))) ?rk010
    case yk010 => (intro w' _; go_simp; try rfl)
    simp only [Act.put, List.getElem_toArray, List.getElem_cons_succ, List.getElem_cons_zero, List.setIfInBounds_toArray, List.set_cons_zero, List.set_cons_succ]
    refine wpHJ_pure (v := ?vk011) 11 hFa rfl (by kernel_rfl) (fun _ _ _ h => h.elim) (Or.inl ⟨by rfl, ?yk011⟩) (.inr (HS.out w3 (HB2.out.trans (hb3.mono HB2.out.size)))) ?rk011
    case yk011 => (intro w' _; go_simp; try rfl)
    simp only [Act.put, List.getElem_toArray, List.getElem_cons_succ, List.getElem_cons_zero, List.setIfInBounds_toArray, List.set_cons_zero, List.set_cons_succ]
    refine wpHJ_only 12 (by kernel_rfl) rfl ?_
    intro K hK
    go_simp
    refine hK _ _ (.inl rfl) ?_
    clear hK K
    refine wpHJ_done (by kernel_rfl) ?_ _
    simp only [onlyN, Exit.then]
    clear hFa
    go_wp2
    go_ret2
    rw [HV.out]
    exact vpost_from HB1.out (vpost_from (HB2.out) ⟨hb3, p3, c3, rfl, hs3⟩)

set_option maxRecDepth 100000 in
set_option maxHeartbeats 8000000 in
theorem lines_k1 (r : Nat) (lv : Int) (A B : List (List Nat)) (imp pol : Bool) (ln co er : Int) (pA pB : Option Addr) (cA cB : Nat) (levels chans : List By) (vl vc : Value) (R : Nat → Prop) (w : World) (hvl : Strs R w vl levels) (hvc : Strs R w vc chans) (hA : NLL R w (.slice pA A.length cA) A) (hB : NLL R w (.slice pB B.length cB) B) (hR : ∀ i, R i → i < w.heap.size)
    (hr : r ≤ 255) (hAn : ∀ l ∈ A, ∀ x ∈ l, x ≤ 18446744073709551615) (hBn : ∀ l ∈ B, ∀ x ∈ l, x ≤ 18446744073709551615) (hlv : -9223372036854775808 ≤ lv ∧ lv ≤ 9223372036854775807) (hln : -9223372036854775808 ≤ ln ∧ ln ≤ 9223372036854775807) (hco : -9223372036854775808 ≤ co ∧ co ≤ 9223372036854775807) (hls : ∀ s ∈ levels, s.length ≤ 140737488355328) (hcs : ∀ s ∈ chans, s.length ≤ 140737488355328) (hcl : chans.length ≤ 1000000) (ht : Tabs w) :
    Calls Tryd.prog 15 #[.agg #[.int .u8 1, .int .u8 (r : Int), .int .i64 lv, .slice pA A.length cA, .slice pB B.length cB, .bool imp, .bool pol, .int .i64 ln, .int .i64 co, .int .i64 er], vl, vc] w (VPost (vlinesR (⟨1, r, lv, A, B, imp, pol, ln, co, er⟩ : Vd) levels chans) w) := by
  have hb0 : Below w.heap.size w (w.alloc (.cells #[.int .u8 1, .int .u8 (r : Int), .int .i64 lv, .slice pA A.length cA, .slice pB B.length cB, .bool imp, .bool pol, .int .i64 ln, .int .i64 co, .int .i64 er] 35)) := (Below.refl _ _).alloc (Nat.le_refl _) _
  have HB0 := hid hb0
  obtain ⟨b, hbq⟩ : ∃ b, bareR (⟨1, r, lv, A, B, imp, pol, ln, co, er⟩ : Vd) = b := ⟨_, rfl⟩
  have HBA := hid (fun W => bare_any0 1 r lv A B A.length B.length imp pol ln co er pA pB cA cB W rfl rfl)
  rw [hbq] at HBA
  have a1 : decide ((3:Int) < 1) = false := by decide
  have hkv : ∀ w, (Instr.index 55 kindsV (.int .u8 1)).run Tryd.prog w = .ok (.agg #[.string ⟨wLeak.toArray⟩, .func (.func 38) #[] #[]]) w := fun _ => by kernel_rfl
  have hfl : ∀ w, (Instr.field 54 (.agg #[.string ⟨wLeak.toArray⟩, .func (.func 38) #[] #[]]) 1).run Tryd.prog w = .ok (.func (.func 38) #[] #[]) w := fun _ => by kernel_rfl
  unfold kindsV at hkv
  unfold wSecure wLeak wInc wReject at hkv
  unfold wLeak at hfl
  have hcb0 : (w.alloc (.cells #[.int .u8 1, .int .u8 (r : Int), .int .i64 lv, .slice pA A.length cA, .slice pB B.length cB, .bool imp, .bool pol, .int .i64 ln, .int .i64 co, .int .i64 er] 35)).heap[w.heap.size]? = some (.cells #[.int .u8 1, .int .u8 (r : Int), .int .i64 lv, .slice pA A.length cA, .slice pB B.length cB, .bool imp, .bool pol, .int .i64 ln, .int .i64 co, .int .i64 er] 35 (0, 0)) := by rw [heap_al, if_pos rfl]
  have hld := load_vd _ _ _ _ _ _ _ _ _ _ _ _ hcb0
  have HVL := hid hvl; have HVC := hid hvc; have HNA0 := hid hA; have HNB0 := hid hB; have HAn := hid hAn; have HBn := hid hBn; have HLS := hid hls; have HCS := hid hcs; have HT := hid (ht.below hb0)
  have HCB := hid hcb0
  have HR := hid hR
  clear hvl hvc hA hB hAn hBn hls hcs ht hcb0 hb0 hR
  have HBQ := hid hbq
  clear hbq
  cases b with
  | false =>
    have HV := hid (show vlinesR (⟨1, r, lv, A, B, imp, pol, ln, co, er⟩ : Vd) levels chans = ([], 2) from by unfold vlinesR; rw [if_neg (by dsimp only; omega), if_pos HBQ.out])
    go_enter Tryd.func15, Tryd.ntmps15
    go_wp2_with (go_at_call 31; refine (HBA.out _).mono ?_; rintro e w1 ⟨rfl, hb1⟩)
    go_ret2
    exact vpost_nil HV.out (HB0.out.trans (hb1.mono HB0.out.size))
  | true =>
    have HV := hid (show vlinesR (⟨1, r, lv, A, B, imp, pol, ln, co, er⟩ : Vd) levels chans = leakR (⟨1, r, lv, A, B, imp, pol, ln, co, er⟩ : Vd) levels chans from by unfold vlinesR; rw [if_neg (by dsimp only; omega), if_neg (by rw [HBQ.out]; decide)]; rfl)
    have HRV : ∃ rv, leakR (⟨1, r, lv, A, B, imp, pol, ln, co, er⟩ : Vd) levels chans = rv := ⟨_, rfl⟩
    have HCALL0 := hid (fun W (hW : Below (w.alloc (.cells #[.int .u8 1, .int .u8 (r : Int), .int .i64 lv, .slice pA A.length cA, .slice pB B.length cB, .bool imp, .bool pol, .int .i64 ln, .int .i64 co, .int .i64 er] 35)).heap.size (w.alloc (.cells #[.int .u8 1, .int .u8 (r : Int), .int .i64 lv, .slice pA A.length cA, .slice pB B.length cB, .bool imp, .bool pol, .int .i64 ln, .int .i64 co, .int .i64 er] 35)) W) => show Calls Tryd.prog 38 #[.agg #[.int .u8 1, .int .u8 (r : Int), .int .i64 lv, .slice pA A.length cA, .slice pB B.length cB, .bool imp, .bool pol, .int .i64 ln, .int .i64 co, .int .i64 er], vl, vc] W (VPost (leakR (⟨1, r, lv, A, B, imp, pol, ln, co, er⟩ : Vd) levels chans) W) from by
      have hR := HR.out
      have hkp : ∀ i, i < w.heap.size → W.heap[i]? = w.heap[i]? := fun i hi => (hW.block i (by rw [World.size_alloc]; omega)).trans (HB0.out.block i hi)
      exact leaks_any 1 r lv A B imp pol ln co er pA pB cA cB levels chans vl vc (fun i => i < w.heap.size) W (HVL.out.keep fun i hi => ⟨hR i hi, hkp i (hR i hi)⟩) (HVC.out.keep fun i hi => ⟨hR i hi, hkp i (hR i hi)⟩) (HNA0.out.keep fun i hi => ⟨hR i hi, hkp i (hR i hi)⟩) (HNB0.out.keep fun i hi => ⟨hR i hi, hkp i (hR i hi)⟩) (fun i hi => by have := (HB0.out.trans (hW.mono HB0.out.size)).size; have hi : i < w.heap.size := hi; omega) HAn.out HBn.out hlv HLS.out HCS.out hcl (HT.out.below hW))
    obtain ⟨rv, hrv⟩ := HRV
    rw [hrv] at HCALL0
    rw [hrv] at HV
    obtain ⟨W0, hW0⟩ : ∃ W, w.alloc (.cells #[.int .u8 1, .int .u8 (r : Int), .int .i64 lv, .slice pA A.length cA, .slice pB B.length cB, .bool imp, .bool pol, .int .i64 ln, .int .i64 co, .int .i64 er] 35) = W := ⟨_, rfl⟩
    have HWW := hid hW0
    clear hW0
    go_enter Tryd.func15, Tryd.ntmps15
    go_wp2_with (go_at_call 31; refine (HBA.out _).mono ?_; rintro e W1 ⟨rfl, hb1⟩)
    rw [HWW.out] at HB0 HCALL0 HCB hld hb1 HT
    have hcb1 := (hb1.block w.heap.size ((Array.getElem?_eq_some_iff.1 HCB.out).1)).trans HCB.out
    have HCALL := hid (fun W (hW : Below W1.heap.size W1 W) => HCALL0.out W (hb1.trans (hW.mono hb1.size)))
    have HB1 := hid (HB0.out.trans (hb1.mono HB0.out.size))
    have hl1 := (Array.getElem?_eq_some_iff.1 hcb1).1
    have HS := hid (show ∀ W', Below W1.heap.size W1 W' → (fun W' : World => W'.cell? ⟨w.heap.size, 0, none⟩ = some (.int .u8 1) ∧ W'.cell? ⟨w.heap.size, 1, none⟩ = some (.int .u8 (r : Int)) ∧ W'.cell? ⟨w.heap.size, 2, none⟩ = some (.int .i64 lv) ∧ W'.cell? ⟨w.heap.size, 3, none⟩ = some (.slice pA A.length cA) ∧ W'.cell? ⟨w.heap.size, 4, none⟩ = some (.slice pB B.length cB) ∧ W'.cell? ⟨w.heap.size, 5, none⟩ = some (.bool imp) ∧ W'.cell? ⟨w.heap.size, 6, none⟩ = some (.bool pol) ∧ W'.cell? ⟨w.heap.size, 7, none⟩ = some (.int .i64 ln) ∧ W'.cell? ⟨w.heap.size, 8, none⟩ = some (.int .i64 co) ∧ W'.cell? ⟨w.heap.size, 9, none⟩ = some (.int .i64 er)) W' from fun W' h => by
      have hc' := (h.block _ hl1).trans hcb1
      exact ⟨by rw [cell_of_row W' _ 0 _ _ _ hc']; rfl, by rw [cell_of_row W' _ 1 _ _ _ hc']; rfl, by rw [cell_of_row W' _ 2 _ _ _ hc']; rfl, by rw [cell_of_row W' _ 3 _ _ _ hc']; rfl, by rw [cell_of_row W' _ 4 _ _ _ hc']; rfl, by rw [cell_of_row W' _ 5 _ _ _ hc']; rfl, by rw [cell_of_row W' _ 6 _ _ _ hc']; rfl, by rw [cell_of_row W' _ 7 _ _ _ hc']; rfl, by rw [cell_of_row W' _ 8 _ _ _ hc']; rfl, by rw [cell_of_row W' _ 9 _ _ _ hc']; rfl⟩)
    have hS : (fun W' : World => W'.cell? ⟨w.heap.size, 0, none⟩ = some (.int .u8 1) ∧ W'.cell? ⟨w.heap.size, 1, none⟩ = some (.int .u8 (r : Int)) ∧ W'.cell? ⟨w.heap.size, 2, none⟩ = some (.int .i64 lv) ∧ W'.cell? ⟨w.heap.size, 3, none⟩ = some (.slice pA A.length cA) ∧ W'.cell? ⟨w.heap.size, 4, none⟩ = some (.slice pB B.length cB) ∧ W'.cell? ⟨w.heap.size, 5, none⟩ = some (.bool imp) ∧ W'.cell? ⟨w.heap.size, 6, none⟩ = some (.bool pol) ∧ W'.cell? ⟨w.heap.size, 7, none⟩ = some (.int .i64 ln) ∧ W'.cell? ⟨w.heap.size, 8, none⟩ = some (.int .i64 co) ∧ W'.cell? ⟨w.heap.size, 9, none⟩ = some (.int .i64 er)) W1.drew := HS.out _ ⟨rfl, rfl, rfl, Nat.le_refl _, fun _ _ => rfl⟩
    clear hb1 hcb1 hl1 hld
    have hFa : ∀ f, Fence.wide.fn f := fun _ => trivial
    refine (wpIn_wide (n := 9)).1 ?_
    refine wpIn_onlyN ?_
    refine wpIn_region_HJ (fun W' : World => W'.cell? ⟨w.heap.size, 0, none⟩ = some (.int .u8 1) ∧ W'.cell? ⟨w.heap.size, 1, none⟩ = some (.int .u8 (r : Int)) ∧ W'.cell? ⟨w.heap.size, 2, none⟩ = some (.int .i64 lv) ∧ W'.cell? ⟨w.heap.size, 3, none⟩ = some (.slice pA A.length cA) ∧ W'.cell? ⟨w.heap.size, 4, none⟩ = some (.slice pB B.length cB) ∧ W'.cell? ⟨w.heap.size, 5, none⟩ = some (.bool imp) ∧ W'.cell? ⟨w.heap.size, 6, none⟩ = some (.bool pol) ∧ W'.cell? ⟨w.heap.size, 7, none⟩ = some (.int .i64 ln) ∧ W'.cell? ⟨w.heap.size, 8, none⟩ = some (.int .i64 co) ∧ W'.cell? ⟨w.heap.size, 9, none⟩ = some (.int .i64 er)) 12 (by kernel_rfl) ?_
    simp only [List.size_toArray, List.length_cons, List.length_nil, Nat.reduceAdd]
    refine wpHJ_pure (v := ?vk11) 1 hFa rfl (by kernel_rfl) (fun _ _ _ h => h.elim) (Or.inl ⟨by rfl, ?yk11⟩) (.inr hS) ?rk11
    case yk11 => (intro w' _; go_simp; try rfl)
    simp only [Act.put, List.getElem_toArray, List.getElem_cons_succ, List.getElem_cons_zero, List.setIfInBounds_toArray, List.set_cons_zero, List.set_cons_succ]
    refine wpHJ_take (v := ?vk12) 2 hFa rfl (by kernel_rfl) (fun _ _ _ h => h.elim) (Or.inl ⟨by rfl, ?yk12⟩) hS ?rk12
    case yk12 => (intro w' hS'; obtain ⟨s0, s1, s2, s3, s4, s5, s6, s7, s8, s9⟩ := hS'; go_simp; try rfl)
    simp only [Act.put, List.getElem_toArray, List.getElem_cons_succ, List.getElem_cons_zero, List.setIfInBounds_toArray, List.set_cons_zero, List.set_cons_succ]
    refine wpHJ_take (v := ?vk15) 5 hFa rfl (by kernel_rfl) (fun _ _ _ h => h.elim) (Or.inl ⟨by rfl, ?yk15⟩) hS ?rk15
    case yk15 => (intro w' hS'; obtain ⟨s0, s1, s2, s3, s4, s5, s6, s7, s8, s9⟩ := hS'; go_simp; try rfl)
    simp only [Act.put, List.getElem_toArray, List.getElem_cons_succ, List.getElem_cons_zero, List.setIfInBounds_toArray, List.set_cons_zero, List.set_cons_succ]
    refine wpHJ_pure (v := ?vk16) 6 hFa rfl (by kernel_rfl) (fun _ _ _ h => h.elim) (Or.inl ⟨by rfl, ?yk16⟩) (.inr hS) ?rk16
    case yk16 => (intro w' _; go_simp; try rfl)
    simp only [Act.put, List.getElem_toArray, List.getElem_cons_succ, List.getElem_cons_zero, List.setIfInBounds_toArray, List.set_cons_zero, List.set_cons_succ]
    refine wpHJ_pure (v := ?vk17) 7 hFa rfl (by kernel_rfl) (fun _ _ _ h => h.elim) (Or.inl ⟨by rfl, ?yk17⟩) (.inr hS) ?rk17
    case yk17 => (intro w' _; go_simp; try rfl)
    simp only [Act.put, List.getElem_toArray, List.getElem_cons_succ, List.getElem_cons_zero, List.setIfInBounds_toArray, List.set_cons_zero, List.set_cons_succ]
    clear hS
    have HBd := hid (show Below W1.heap.size W1 W1.drew from ⟨rfl, rfl, rfl, Nat.le_refl _, fun _ _ => rfl⟩)
    generalize W1.drew = wd at *
    refine wpHJ_only 0 (by kernel_rfl) rfl ?_
    intro K hK
    go_simp
    (with_reducible refine (callsIn_wide.2 (kinds_any _)).mono ?_)
    unfold kindsV wSecure wLeak wInc wReject
    rintro e w2 ⟨rfl, hb2⟩
    have HB2 := hid (HBd.out.trans (hb2.mono HBd.out.size))
    clear hb2
    refine hK _ _ (.inr (.inr (HS.out w2 HB2.out))) ?_
    clear hK K
    refine wpHJ_pure (v := ?vk13) 3 hFa rfl (by kernel_rfl) (fun _ _ _ h => h.elim) (Or.inl ⟨by rfl, ?yk13⟩) (.inr (HS.out w2 HB2.out)) ?rk13
    case yk13 => (intro w' _; go_simp; try rfl)
    simp only [Act.put, List.getElem_toArray, List.getElem_cons_succ, List.getElem_cons_zero, List.setIfInBounds_toArray, List.set_cons_zero, List.set_cons_succ]
    refine wpHJ_pure (v := ?vk14) 4 hFa rfl (by kernel_rfl) (fun _ _ _ h => h.elim) (Or.inl ⟨by rfl, ?yk14⟩) (.inr (HS.out w2 HB2.out)) ?rk14
    case yk14 => (intro w' _; go_simp; try rfl)
    simp only [Act.put, List.getElem_toArray, List.getElem_cons_succ, List.getElem_cons_zero, List.setIfInBounds_toArray, List.set_cons_zero, List.set_cons_succ]
    refine wpHJ_only 8 (by kernel_rfl) rfl ?_
    intro K hK
    go_simp
    (with_reducible refine (callsIn_wide.2 (HCALL.out w2 HB2.out)).mono ?_)
    rintro e w3 hp3
    obtain ⟨hb3, p3, c3, rfl, hs3⟩ := hp3
    refine hK _ _ (.inr (.inr (HS.out w3 (HB2.out.trans (hb3.mono HB2.out.size))))) ?_
    clear hK K
    refine wpHJ_pure (v := ?vk19) 9 hFa rfl (by kernel_rfl) (fun _ _ _ h => h.elim) (Or.inl ⟨by rfl, ?yk19⟩) (.inr (HS.out w3 (HB2.out.trans (hb3.mono HB2.out.size)))) ?rk19
    case yk19 => (intro w' _; go_simp; try rfl)
    simp only [Act.put, List.getElem_toArray, List.getElem_cons_succ, List.getElem_cons_zero, List.setIfInBounds_toArray, List.set_cons_zero, List.set_cons_succ]
    refine wpHJ_pure (v := ?vk110) 10 hFa rfl (by kernel_rfl) (fun _ _ _ h => h.elim) (Or.inl ⟨by rfl, ?yk110⟩) (.inr (HS.out w3 (HB2.out.trans (hb3.mono HB2.out.size)))) ?rk110
    case yk110 => (intro w' _; go_simp; try rfl)
    simp only [Act.put, List.getElem_toArray, List.getElem_cons_succ, List.getElem_cons_zero, List.setIfInBounds_toArray, List.set_cons_zero, List.set_cons_succ]
    refine wpHJ_pure (v := ?vk111) 11 hFa rfl (by kernel_rfl) (fun _ _ _ h => h.elim) (Or.inl ⟨by rfl, ?yk111⟩) (.inr (HS.out w3 (HB2.out.trans (hb3.mono HB2.out.size)))) ?rk111
    case yk111 => (intro w' _; go_simp; try rfl)
    simp only [Act.put, List.getElem_toArray, List.getElem_cons_succ, List.getElem_cons_zero, List.setIfInBounds_toArray, List.set_cons_zero, List.set_cons_succ]
    refine wpHJ_only 12 (by kernel_rfl) rfl ?_
    intro K hK
    go_simp
    refine hK _ _ (.inl rfl) ?_
    clear hK K
    refine wpHJ_done (by kernel_rfl) ?_ _
    simp only [onlyN, Exit.then]
    clear hFa
    go_wp2
    go_ret2
    rw [HV.out]
    exact vpost_from HB1.out (vpost_from (HB2.out) ⟨hb3, p3, c3, rfl, hs3⟩)

set_option maxRecDepth 100000 in
set_option maxHeartbeats 8000000 in
theorem lines_k2 (r : Nat) (lv : Int) (A B : List (List Nat)) (imp pol : Bool) (ln co er : Int) (pA pB : Option Addr) (cA cB : Nat) (levels chans : List By) (vl vc : Value) (R : Nat → Prop) (w : World) (hvl : Strs R w vl levels) (hvc : Strs R w vc chans) (hA : NLL R w (.slice pA A.length cA) A) (hB : NLL R w (.slice pB B.length cB) B) (hR : ∀ i, R i → i < w.heap.size)
    (hr : r ≤ 255) (hAn : ∀ l ∈ A, ∀ x ∈ l, x ≤ 18446744073709551615) (hBn : ∀ l ∈ B, ∀ x ∈ l, x ≤ 18446744073709551615) (hlv : -9223372036854775808 ≤ lv ∧ lv ≤ 9223372036854775807) (hln : -9223372036854775808 ≤ ln ∧ ln ≤ 9223372036854775807) (hco : -9223372036854775808 ≤ co ∧ co ≤ 9223372036854775807) (hls : ∀ s ∈ levels, s.length ≤ 140737488355328) (hcs : ∀ s ∈ chans, s.length ≤ 140737488355328) (hcl : chans.length ≤ 1000000) (ht : Tabs w) :
    Calls Tryd.prog 15 #[.agg #[.int .u8 2, .int .u8 (r : Int), .int .i64 lv, .slice pA A.length cA, .slice pB B.length cB, .bool imp, .bool pol, .int .i64 ln, .int .i64 co, .int .i64 er], vl, vc] w (VPost (vlinesR (⟨2, r, lv, A, B, imp, pol, ln, co, er⟩ : Vd) levels chans) w) := by
  have hb0 : Below w.heap.size w (w.alloc (.cells #[.int .u8 2, .int .u8 (r : Int), .int .i64 lv, .slice pA A.length cA, .slice pB B.length cB, .bool imp, .bool pol, .int .i64 ln, .int .i64 co, .int .i64 er] 35)) := (Below.refl _ _).alloc (Nat.le_refl _) _
  have HB0 := hid hb0
  obtain ⟨b, hbq⟩ : ∃ b, bareR (⟨2, r, lv, A, B, imp, pol, ln, co, er⟩ : Vd) = b := ⟨_, rfl⟩
  have HBA := hid (fun W => bare_any0 2 r lv A B A.length B.length imp pol ln co er pA pB cA cB W rfl rfl)
  rw [hbq] at HBA
  have a1 : decide ((3:Int) < 2) = false := by decide
  have hkv : ∀ w, (Instr.index 55 kindsV (.int .u8 2)).run Tryd.prog w = .ok (.agg #[.string ⟨wInc.toArray⟩, .func (.func 37) #[] #[]]) w := fun _ => by kernel_rfl
  have hfl : ∀ w, (Instr.field 54 (.agg #[.string ⟨wInc.toArray⟩, .func (.func 37) #[] #[]]) 1).run Tryd.prog w = .ok (.func (.func 37) #[] #[]) w := fun _ => by kernel_rfl
  unfold kindsV at hkv
  unfold wSecure wLeak wInc wReject at hkv
  unfold wInc at hfl
  have hcb0 : (w.alloc (.cells #[.int .u8 2, .int .u8 (r : Int), .int .i64 lv, .slice pA A.length cA, .slice pB B.length cB, .bool imp, .bool pol, .int .i64 ln, .int .i64 co, .int .i64 er] 35)).heap[w.heap.size]? = some (.cells #[.int .u8 2, .int .u8 (r : Int), .int .i64 lv, .slice pA A.length cA, .slice pB B.length cB, .bool imp, .bool pol, .int .i64 ln, .int .i64 co, .int .i64 er] 35 (0, 0)) := by rw [heap_al, if_pos rfl]
  have hld := load_vd _ _ _ _ _ _ _ _ _ _ _ _ hcb0
  have HVL := hid hvl; have HVC := hid hvc; have HNA0 := hid hA; have HNB0 := hid hB; have HAn := hid hAn; have HBn := hid hBn; have HLS := hid hls; have HCS := hid hcs; have HT := hid (ht.below hb0)
  have HCB := hid hcb0
  have HR := hid hR
  clear hvl hvc hA hB hAn hBn hls hcs ht hcb0 hb0 hR
  have HBQ := hid hbq
  clear hbq
  cases b with
  | false =>
    have HV := hid (show vlinesR (⟨2, r, lv, A, B, imp, pol, ln, co, er⟩ : Vd) levels chans = ([], 2) from by unfold vlinesR; rw [if_neg (by dsimp only; omega), if_pos HBQ.out])
    go_enter Tryd.func15, Tryd.ntmps15
    go_wp2_with (go_at_call 31; refine (HBA.out _).mono ?_; rintro e w1 ⟨rfl, hb1⟩)
    go_ret2
    exact vpost_nil HV.out (HB0.out.trans (hb1.mono HB0.out.size))
  | true =>
    have HV := hid (show vlinesR (⟨2, r, lv, A, B, imp, pol, ln, co, er⟩ : Vd) levels chans = plainR (⟨2, r, lv, A, B, imp, pol, ln, co, er⟩ : Vd) from by unfold vlinesR; rw [if_neg (by dsimp only; omega), if_neg (by rw [HBQ.out]; decide)]; rfl)
    have HRV : ∃ rv, plainR (⟨2, r, lv, A, B, imp, pol, ln, co, er⟩ : Vd) = rv := ⟨_, rfl⟩
    have HCALL0 := hid (fun W (hW : Below (w.alloc (.cells #[.int .u8 2, .int .u8 (r : Int), .int .i64 lv, .slice pA A.length cA, .slice pB B.length cB, .bool imp, .bool pol, .int .i64 ln, .int .i64 co, .int .i64 er] 35)).heap.size (w.alloc (.cells #[.int .u8 2, .int .u8 (r : Int), .int .i64 lv, .slice pA A.length cA, .slice pB B.length cB, .bool imp, .bool pol, .int .i64 ln, .int .i64 co, .int .i64 er] 35)) W) => show Calls Tryd.prog 37 #[.agg #[.int .u8 2, .int .u8 (r : Int), .int .i64 lv, .slice pA A.length cA, .slice pB B.length cB, .bool imp, .bool pol, .int .i64 ln, .int .i64 co, .int .i64 er], vl, vc] W (VPost (plainR (⟨2, r, lv, A, B, imp, pol, ln, co, er⟩ : Vd)) W) from by
      have hR := HR.out
      have hkp : ∀ i, i < w.heap.size → W.heap[i]? = w.heap[i]? := fun i hi => (hW.block i (by rw [World.size_alloc]; omega)).trans (HB0.out.block i hi)
      exact plainL_any 2 r lv A B imp pol ln co er pA pB cA cB vl vc W (by omega) hr (HT.out.below hW))
    obtain ⟨rv, hrv⟩ := HRV
    rw [hrv] at HCALL0
    rw [hrv] at HV
    obtain ⟨W0, hW0⟩ : ∃ W, w.alloc (.cells #[.int .u8 2, .int .u8 (r : Int), .int .i64 lv, .slice pA A.length cA, .slice pB B.length cB, .bool imp, .bool pol, .int .i64 ln, .int .i64 co, .int .i64 er] 35) = W := ⟨_, rfl⟩
    have HWW := hid hW0
    clear hW0
    go_enter Tryd.func15, Tryd.ntmps15
    go_wp2_with (go_at_call 31; refine (HBA.out _).mono ?_; rintro e W1 ⟨rfl, hb1⟩)
    rw [HWW.out] at HB0 HCALL0 HCB hld hb1 HT
    have hcb1 := (hb1.block w.heap.size ((Array.getElem?_eq_some_iff.1 HCB.out).1)).trans HCB.out
    have HCALL := hid (fun W (hW : Below W1.heap.size W1 W) => HCALL0.out W (hb1.trans (hW.mono hb1.size)))
    have HB1 := hid (HB0.out.trans (hb1.mono HB0.out.size))
    have hl1 := (Array.getElem?_eq_some_iff.1 hcb1).1
    have HS := hid (show ∀ W', Below W1.heap.size W1 W' → (fun W' : World => W'.cell? ⟨w.heap.size, 0, none⟩ = some (.int .u8 2) ∧ W'.cell? ⟨w.heap.size, 1, none⟩ = some (.int .u8 (r : Int)) ∧ W'.cell? ⟨w.heap.size, 2, none⟩ = some (.int .i64 lv) ∧ W'.cell? ⟨w.heap.size, 3, none⟩ = some (.slice pA A.length cA) ∧ W'.cell? ⟨w.heap.size, 4, none⟩ = some (.slice pB B.length cB) ∧ W'.cell? ⟨w.heap.size, 5, none⟩ = some (.bool imp) ∧ W'.cell? ⟨w.heap.size, 6, none⟩ = some (.bool pol) ∧ W'.cell? ⟨w.heap.size, 7, none⟩ = some (.int .i64 ln) ∧ W'.cell? ⟨w.heap.size, 8, none⟩ = some (.int .i64 co) ∧ W'.cell? ⟨w.heap.size, 9, none⟩ = some (.int .i64 er)) W' from fun W' h => by
      have hc' := (h.block _ hl1).trans hcb1
      exact ⟨by rw [cell_of_row W' _ 0 _ _ _ hc']; rfl, by rw [cell_of_row W' _ 1 _ _ _ hc']; rfl, by rw [cell_of_row W' _ 2 _ _ _ hc']; rfl, by rw [cell_of_row W' _ 3 _ _ _ hc']; rfl, by rw [cell_of_row W' _ 4 _ _ _ hc']; rfl, by rw [cell_of_row W' _ 5 _ _ _ hc']; rfl, by rw [cell_of_row W' _ 6 _ _ _ hc']; rfl, by rw [cell_of_row W' _ 7 _ _ _ hc']; rfl, by rw [cell_of_row W' _ 8 _ _ _ hc']; rfl, by rw [cell_of_row W' _ 9 _ _ _ hc']; rfl⟩)
    have hS : (fun W' : World => W'.cell? ⟨w.heap.size, 0, none⟩ = some (.int .u8 2) ∧ W'.cell? ⟨w.heap.size, 1, none⟩ = some (.int .u8 (r : Int)) ∧ W'.cell? ⟨w.heap.size, 2, none⟩ = some (.int .i64 lv) ∧ W'.cell? ⟨w.heap.size, 3, none⟩ = some (.slice pA A.length cA) ∧ W'.cell? ⟨w.heap.size, 4, none⟩ = some (.slice pB B.length cB) ∧ W'.cell? ⟨w.heap.size, 5, none⟩ = some (.bool imp) ∧ W'.cell? ⟨w.heap.size, 6, none⟩ = some (.bool pol) ∧ W'.cell? ⟨w.heap.size, 7, none⟩ = some (.int .i64 ln) ∧ W'.cell? ⟨w.heap.size, 8, none⟩ = some (.int .i64 co) ∧ W'.cell? ⟨w.heap.size, 9, none⟩ = some (.int .i64 er)) W1.drew := HS.out _ ⟨rfl, rfl, rfl, Nat.le_refl _, fun _ _ => rfl⟩
    clear hb1 hcb1 hl1 hld
    have hFa : ∀ f, Fence.wide.fn f := fun _ => trivial
    refine (wpIn_wide (n := 9)).1 ?_
    refine wpIn_onlyN ?_
    refine wpIn_region_HJ (fun W' : World => W'.cell? ⟨w.heap.size, 0, none⟩ = some (.int .u8 2) ∧ W'.cell? ⟨w.heap.size, 1, none⟩ = some (.int .u8 (r : Int)) ∧ W'.cell? ⟨w.heap.size, 2, none⟩ = some (.int .i64 lv) ∧ W'.cell? ⟨w.heap.size, 3, none⟩ = some (.slice pA A.length cA) ∧ W'.cell? ⟨w.heap.size, 4, none⟩ = some (.slice pB B.length cB) ∧ W'.cell? ⟨w.heap.size, 5, none⟩ = some (.bool imp) ∧ W'.cell? ⟨w.heap.size, 6, none⟩ = some (.bool pol) ∧ W'.cell? ⟨w.heap.size, 7, none⟩ = some (.int .i64 ln) ∧ W'.cell? ⟨w.heap.size, 8, none⟩ = some (.int .i64 co) ∧ W'.cell? ⟨w.heap.size, 9, none⟩ = some (.int .i64 er)) 12 (by kernel_rfl) ?_
    simp only [List.size_toArray, List.length_cons, List.length_nil, Nat.reduceAdd]
    refine wpHJ_pure (v := ?vk21) 1 hFa rfl (by kernel_rfl) (fun _ _ _ h => h.elim) (Or.inl ⟨by rfl, ?yk21⟩) (.inr hS) ?rk21
    case yk21 => (intro w' _; go_simp; try rfl)
    simp only [Act.put, List.getElem_toArray, List.getElem_cons_succ, List.getElem_cons_zero, List.setIfInBounds_toArray, List.set_cons_zero, List.set_cons_succ]
    refine wpHJ_take (v := ?vk22) 2 hFa rfl (by kernel_rfl) (fun _ _ _ h => h.elim) (Or.inl ⟨by rfl, ?yk22⟩) hS ?rk22
    case yk22 => (intro w' hS'; obtain ⟨s0, s1, s2, s3, s4, s5, s6, s7, s8, s9⟩ := hS'; go_simp; try rfl)
    simp only [Act.put, List.getElem_toArray, List.getElem_cons_succ, List.getElem_cons_zero, List.setIfInBounds_toArray, List.set_cons_zero, List.set_cons_succ]
    refine wpHJ_take (v := ?vk25) 5 hFa rfl (by kernel_rfl) (fun _ _ _ h => h.elim) (Or.inl ⟨by rfl, ?yk25⟩) hS ?rk25
    case yk25 => (intro w' hS'; obtain ⟨s0, s1, s2, s3, s4, s5, s6, s7, s8, s9⟩ := hS'; go_simp; try rfl)
    simp only [Act.put, List.getElem_toArray, List.getElem_cons_succ, List.getElem_cons_zero, List.setIfInBounds_toArray, List.set_cons_zero, List.set_cons_succ]
    refine wpHJ_pure (v := ?vk26) 6 hFa rfl (by kernel_rfl) (fun _ _ _ h => h.elim) (Or.inl ⟨by rfl, ?yk26⟩) (.inr hS) ?rk26
    case yk26 => (intro w' _; go_simp; try rfl)
    simp only [Act.put, List.getElem_toArray, List.getElem_cons_succ, List.getElem_cons_zero, List.setIfInBounds_toArray, List.set_cons_zero, List.set_cons_succ]
    refine wpHJ_pure (v := ?vk27) 7 hFa rfl (by kernel_rfl) (fun _ _ _ h => h.elim) (Or.inl ⟨by rfl, ?yk27⟩) (.inr hS) ?rk27
    case yk27 => (intro w' _; go_simp; try rfl)
    simp only [Act.put, List.getElem_toArray, List.getElem_cons_succ, List.getElem_cons_zero, List.setIfInBounds_toArray, List.set_cons_zero, List.set_cons_succ]
    clear hS
    have HBd := hid (show Below W1.heap.size W1 W1.drew from ⟨rfl, rfl, rfl, Nat.le_refl _, fun _ _ => rfl⟩)
    generalize W1.drew = wd at *
    refine wpHJ_only 0 (by kernel_rfl) rfl ?_
    intro K hK
    go_simp
    (with_reducible refine (callsIn_wide.2 (kinds_any _)).mono ?_)
    unfold kindsV wSecure wLeak wInc wReject
    rintro e w2 ⟨rfl, hb2⟩
    have HB2 := hid (HBd.out.trans (hb2.mono HBd.out.size))
    clear hb2
    refine hK _ _ (.inr (.inr (HS.out w2 HB2.out))) ?_
    clear hK K
    refine wpHJ_pure (v := ?vk23) 3 hFa rfl (by kernel_rfl) (fun _ _ _ h => h.elim) (Or.inl ⟨by rfl, ?yk23⟩) (.inr (HS.out w2 HB2.out)) ?rk23
    case yk23 => (intro w' _; go_simp; try rfl)
    simp only [Act.put, List.getElem_toArray, List.getElem_cons_succ, List.getElem_cons_zero, List.setIfInBounds_toArray, List.set_cons_zero, List.set_cons_succ]
    refine wpHJ_pure (v := ?vk24) 4 hFa rfl (by kernel_rfl) (fun _ _ _ h => h.elim) (Or.inl ⟨by rfl, ?yk24⟩) (.inr (HS.out w2 HB2.out)) ?rk24
    case yk24 => (intro w' _; go_simp; try rfl)
    simp only [Act.put, List.getElem_toArray, List.getElem_cons_succ, List.getElem_cons_zero, List.setIfInBounds_toArray, List.set_cons_zero, List.set_cons_succ]
    refine wpHJ_only 8 (by kernel_rfl) rfl ?_
    intro K hK
    go_simp
    (with_reducible refine (callsIn_wide.2 (HCALL.out w2 HB2.out)).mono ?_)
    rintro e w3 hp3
    obtain ⟨hb3, p3, c3, rfl, hs3⟩ := hp3
    refine hK _ _ (.inr (.inr (HS.out w3 (HB2.out.trans (hb3.mono HB2.out.size))))) ?_
    clear hK K
    refine wpHJ_pure (v := ?vk29) 9 hFa rfl (by kernel_rfl) (fun _ _ _ h => h.elim) (Or.inl ⟨by rfl, ?yk29⟩) (.inr (HS.out w3 (HB2.out.trans (hb3.mono HB2.out.size)))) ?rk29
    case yk29 => (intro w' _; go_simp; try rfl)
    simp only [Act.put, List.getElem_toArray, List.getElem_cons_succ, List.getElem_cons_zero, List.setIfInBounds_toArray, List.set_cons_zero, List.set_cons_succ]
    refine wpHJ_pure (v := ?vk210) 10 hFa rfl (by kernel_rfl) (fun _ _ _ h => h.elim) (Or.inl ⟨by rfl, ?yk210⟩) (.inr (HS.out w3 (HB2.out.trans (hb3.mono HB2.out.size)))) ?rk210
    case yk210 => (intro w' _; go_simp; try rfl)
    simp only [Act.put, List.getElem_toArray, List.getElem_cons_succ, List.getElem_cons_zero, List.setIfInBounds_toArray, List.set_cons_zero, List.set_cons_succ]
    refine wpHJ_pure (v := ?vk211) 11 hFa rfl (by kernel_rfl) (fun _ _ _ h => h.elim) (Or.inl ⟨by rfl, ?yk211⟩) (.inr (HS.out w3 (HB2.out.trans (hb3.mono HB2.out.size)))) ?rk211
    case yk211 => (intro w' _; go_simp; try rfl)
    simp only [Act.put, List.getElem_toArray, List.getElem_cons_succ, List.getElem_cons_zero, List.setIfInBounds_toArray, List.set_cons_zero, List.set_cons_succ]
    refine wpHJ_only 12 (by kernel_rfl) rfl ?_
    intro K hK
    go_simp
    refine hK _ _ (.inl rfl) ?_
    clear hK K
    refine wpHJ_done (by kernel_rfl) ?_ _
    simp only [onlyN, Exit.then]
    clear hFa
    go_wp2
    go_ret2
    rw [HV.out]
    exact vpost_from HB1.out (vpost_from (HB2.out) ⟨hb3, p3, c3, rfl, hs3⟩)

set_option maxRecDepth 100000 in
set_option maxHeartbeats 8000000 in
theorem lines_k3 (r : Nat) (lv : Int) (A B : List (List Nat)) (imp pol : Bool) (ln co er : Int) (pA pB : Option Addr) (cA cB : Nat) (levels chans : List By) (vl vc : Value) (R : Nat → Prop) (w : World) (hvl : Strs R w vl levels) (hvc : Strs R w vc chans) (hA : NLL R w (.slice pA A.length cA) A) (hB : NLL R w (.slice pB B.length cB) B) (hR : ∀ i, R i → i < w.heap.size)
    (hr : r ≤ 255) (hAn : ∀ l ∈ A, ∀ x ∈ l, x ≤ 18446744073709551615) (hBn : ∀ l ∈ B, ∀ x ∈ l, x ≤ 18446744073709551615) (hlv : -9223372036854775808 ≤ lv ∧ lv ≤ 9223372036854775807) (hln : -9223372036854775808 ≤ ln ∧ ln ≤ 9223372036854775807) (hco : -9223372036854775808 ≤ co ∧ co ≤ 9223372036854775807) (hls : ∀ s ∈ levels, s.length ≤ 140737488355328) (hcs : ∀ s ∈ chans, s.length ≤ 140737488355328) (hcl : chans.length ≤ 1000000) (ht : Tabs w) :
    Calls Tryd.prog 15 #[.agg #[.int .u8 3, .int .u8 (r : Int), .int .i64 lv, .slice pA A.length cA, .slice pB B.length cB, .bool imp, .bool pol, .int .i64 ln, .int .i64 co, .int .i64 er], vl, vc] w (VPost (vlinesR (⟨3, r, lv, A, B, imp, pol, ln, co, er⟩ : Vd) levels chans) w) := by
  have hb0 : Below w.heap.size w (w.alloc (.cells #[.int .u8 3, .int .u8 (r : Int), .int .i64 lv, .slice pA A.length cA, .slice pB B.length cB, .bool imp, .bool pol, .int .i64 ln, .int .i64 co, .int .i64 er] 35)) := (Below.refl _ _).alloc (Nat.le_refl _) _
  have HB0 := hid hb0
  obtain ⟨b, hbq⟩ : ∃ b, bareR (⟨3, r, lv, A, B, imp, pol, ln, co, er⟩ : Vd) = b := ⟨_, rfl⟩
  have HBA := hid (fun W => bare_any0 3 r lv A B A.length B.length imp pol ln co er pA pB cA cB W rfl rfl)
  rw [hbq] at HBA
  have a1 : decide ((3:Int) < 3) = false := by decide
  have hkv : ∀ w, (Instr.index 55 kindsV (.int .u8 3)).run Tryd.prog w = .ok (.agg #[.string ⟨wReject.toArray⟩, .func (.func 39) #[] #[]]) w := fun _ => by kernel_rfl
  have hfl : ∀ w, (Instr.field 54 (.agg #[.string ⟨wReject.toArray⟩, .func (.func 39) #[] #[]]) 1).run Tryd.prog w = .ok (.func (.func 39) #[] #[]) w := fun _ => by kernel_rfl
  unfold kindsV at hkv
  unfold wSecure wLeak wInc wReject at hkv
  unfold wReject at hfl
  have hcb0 : (w.alloc (.cells #[.int .u8 3, .int .u8 (r : Int), .int .i64 lv, .slice pA A.length cA, .slice pB B.length cB, .bool imp, .bool pol, .int .i64 ln, .int .i64 co, .int .i64 er] 35)).heap[w.heap.size]? = some (.cells #[.int .u8 3, .int .u8 (r : Int), .int .i64 lv, .slice pA A.length cA, .slice pB B.length cB, .bool imp, .bool pol, .int .i64 ln, .int .i64 co, .int .i64 er] 35 (0, 0)) := by rw [heap_al, if_pos rfl]
  have hld := load_vd _ _ _ _ _ _ _ _ _ _ _ _ hcb0
  have HVL := hid hvl; have HVC := hid hvc; have HNA0 := hid hA; have HNB0 := hid hB; have HAn := hid hAn; have HBn := hid hBn; have HLS := hid hls; have HCS := hid hcs; have HT := hid (ht.below hb0)
  have HCB := hid hcb0
  have HR := hid hR
  clear hvl hvc hA hB hAn hBn hls hcs ht hcb0 hb0 hR
  have HBQ := hid hbq
  clear hbq
  cases b with
  | false =>
    have HV := hid (show vlinesR (⟨3, r, lv, A, B, imp, pol, ln, co, er⟩ : Vd) levels chans = ([], 2) from by unfold vlinesR; rw [if_neg (by dsimp only; omega), if_pos HBQ.out])
    go_enter Tryd.func15, Tryd.ntmps15
    go_wp2_with (go_at_call 31; refine (HBA.out _).mono ?_; rintro e w1 ⟨rfl, hb1⟩)
    go_ret2
    exact vpost_nil HV.out (HB0.out.trans (hb1.mono HB0.out.size))
  | true =>
    have HV := hid (show vlinesR (⟨3, r, lv, A, B, imp, pol, ln, co, er⟩ : Vd) levels chans = rejectR (⟨3, r, lv, A, B, imp, pol, ln, co, er⟩ : Vd) from by unfold vlinesR; rw [if_neg (by dsimp only; omega), if_neg (by rw [HBQ.out]; decide)]; rfl)
    have HRV : ∃ rv, rejectR (⟨3, r, lv, A, B, imp, pol, ln, co, er⟩ : Vd) = rv := ⟨_, rfl⟩
    have HCALL0 := hid (fun W (hW : Below (w.alloc (.cells #[.int .u8 3, .int .u8 (r : Int), .int .i64 lv, .slice pA A.length cA, .slice pB B.length cB, .bool imp, .bool pol, .int .i64 ln, .int .i64 co, .int .i64 er] 35)).heap.size (w.alloc (.cells #[.int .u8 3, .int .u8 (r : Int), .int .i64 lv, .slice pA A.length cA, .slice pB B.length cB, .bool imp, .bool pol, .int .i64 ln, .int .i64 co, .int .i64 er] 35)) W) => show Calls Tryd.prog 39 #[.agg #[.int .u8 3, .int .u8 (r : Int), .int .i64 lv, .slice pA A.length cA, .slice pB B.length cB, .bool imp, .bool pol, .int .i64 ln, .int .i64 co, .int .i64 er], vl, vc] W (VPost (rejectR (⟨3, r, lv, A, B, imp, pol, ln, co, er⟩ : Vd)) W) from by
      have hR := HR.out
      have hkp : ∀ i, i < w.heap.size → W.heap[i]? = w.heap[i]? := fun i hi => (hW.block i (by rw [World.size_alloc]; omega)).trans (HB0.out.block i hi)
      exact rejects_any 3 r lv A B imp pol ln co er pA pB cA cB vl vc W hln hco (HT.out.below hW))
    obtain ⟨rv, hrv⟩ := HRV
    rw [hrv] at HCALL0
    rw [hrv] at HV
    obtain ⟨W0, hW0⟩ : ∃ W, w.alloc (.cells #[.int .u8 3, .int .u8 (r : Int), .int .i64 lv, .slice pA A.length cA, .slice pB B.length cB, .bool imp, .bool pol, .int .i64 ln, .int .i64 co, .int .i64 er] 35) = W := ⟨_, rfl⟩
    have HWW := hid hW0
    clear hW0
    go_enter Tryd.func15, Tryd.ntmps15
    go_wp2_with (go_at_call 31; refine (HBA.out _).mono ?_; rintro e W1 ⟨rfl, hb1⟩)
    rw [HWW.out] at HB0 HCALL0 HCB hld hb1 HT
    have hcb1 := (hb1.block w.heap.size ((Array.getElem?_eq_some_iff.1 HCB.out).1)).trans HCB.out
    have HCALL := hid (fun W (hW : Below W1.heap.size W1 W) => HCALL0.out W (hb1.trans (hW.mono hb1.size)))
    have HB1 := hid (HB0.out.trans (hb1.mono HB0.out.size))
    have hl1 := (Array.getElem?_eq_some_iff.1 hcb1).1
    have HS := hid (show ∀ W', Below W1.heap.size W1 W' → (fun W' : World => W'.cell? ⟨w.heap.size, 0, none⟩ = some (.int .u8 3) ∧ W'.cell? ⟨w.heap.size, 1, none⟩ = some (.int .u8 (r : Int)) ∧ W'.cell? ⟨w.heap.size, 2, none⟩ = some (.int .i64 lv) ∧ W'.cell? ⟨w.heap.size, 3, none⟩ = some (.slice pA A.length cA) ∧ W'.cell? ⟨w.heap.size, 4, none⟩ = some (.slice pB B.length cB) ∧ W'.cell? ⟨w.heap.size, 5, none⟩ = some (.bool imp) ∧ W'.cell? ⟨w.heap.size, 6, none⟩ = some (.bool pol) ∧ W'.cell? ⟨w.heap.size, 7, none⟩ = some (.int .i64 ln) ∧ W'.cell? ⟨w.heap.size, 8, none⟩ = some (.int .i64 co) ∧ W'.cell? ⟨w.heap.size, 9, none⟩ = some (.int .i64 er)) W' from fun W' h => by
      have hc' := (h.block _ hl1).trans hcb1
      exact ⟨by rw [cell_of_row W' _ 0 _ _ _ hc']; rfl, by rw [cell_of_row W' _ 1 _ _ _ hc']; rfl, by rw [cell_of_row W' _ 2 _ _ _ hc']; rfl, by rw [cell_of_row W' _ 3 _ _ _ hc']; rfl, by rw [cell_of_row W' _ 4 _ _ _ hc']; rfl, by rw [cell_of_row W' _ 5 _ _ _ hc']; rfl, by rw [cell_of_row W' _ 6 _ _ _ hc']; rfl, by rw [cell_of_row W' _ 7 _ _ _ hc']; rfl, by rw [cell_of_row W' _ 8 _ _ _ hc']; rfl, by rw [cell_of_row W' _ 9 _ _ _ hc']; rfl⟩)
    have hS : (fun W' : World => W'.cell? ⟨w.heap.size, 0, none⟩ = some (.int .u8 3) ∧ W'.cell? ⟨w.heap.size, 1, none⟩ = some (.int .u8 (r : Int)) ∧ W'.cell? ⟨w.heap.size, 2, none⟩ = some (.int .i64 lv) ∧ W'.cell? ⟨w.heap.size, 3, none⟩ = some (.slice pA A.length cA) ∧ W'.cell? ⟨w.heap.size, 4, none⟩ = some (.slice pB B.length cB) ∧ W'.cell? ⟨w.heap.size, 5, none⟩ = some (.bool imp) ∧ W'.cell? ⟨w.heap.size, 6, none⟩ = some (.bool pol) ∧ W'.cell? ⟨w.heap.size, 7, none⟩ = some (.int .i64 ln) ∧ W'.cell? ⟨w.heap.size, 8, none⟩ = some (.int .i64 co) ∧ W'.cell? ⟨w.heap.size, 9, none⟩ = some (.int .i64 er)) W1.drew := HS.out _ ⟨rfl, rfl, rfl, Nat.le_refl _, fun _ _ => rfl⟩
    clear hb1 hcb1 hl1 hld
    have hFa : ∀ f, Fence.wide.fn f := fun _ => trivial
    refine (wpIn_wide (n := 9)).1 ?_
    refine wpIn_onlyN ?_
    refine wpIn_region_HJ (fun W' : World => W'.cell? ⟨w.heap.size, 0, none⟩ = some (.int .u8 3) ∧ W'.cell? ⟨w.heap.size, 1, none⟩ = some (.int .u8 (r : Int)) ∧ W'.cell? ⟨w.heap.size, 2, none⟩ = some (.int .i64 lv) ∧ W'.cell? ⟨w.heap.size, 3, none⟩ = some (.slice pA A.length cA) ∧ W'.cell? ⟨w.heap.size, 4, none⟩ = some (.slice pB B.length cB) ∧ W'.cell? ⟨w.heap.size, 5, none⟩ = some (.bool imp) ∧ W'.cell? ⟨w.heap.size, 6, none⟩ = some (.bool pol) ∧ W'.cell? ⟨w.heap.size, 7, none⟩ = some (.int .i64 ln) ∧ W'.cell? ⟨w.heap.size, 8, none⟩ = some (.int .i64 co) ∧ W'.cell? ⟨w.heap.size, 9, none⟩ = some (.int .i64 er)) 12 (by kernel_rfl) ?_
    simp only [List.size_toArray, List.length_cons, List.length_nil, Nat.reduceAdd]
    refine wpHJ_pure (v := ?vk31) 1 hFa rfl (by kernel_rfl) (fun _ _ _ h => h.elim) (Or.inl ⟨by rfl, ?yk31⟩) (.inr hS) ?rk31
    case yk31 => (intro w' _; go_simp; try rfl)
    simp only [Act.put, List.getElem_toArray, List.getElem_cons_succ, List.getElem_cons_zero, List.setIfInBounds_toArray, List.set_cons_zero, List.set_cons_succ]
    refine wpHJ_take (v := ?vk32) 2 hFa rfl (by kernel_rfl) (fun _ _ _ h => h.elim) (Or.inl ⟨by rfl, ?yk32⟩) hS ?rk32
    case yk32 => (intro w' hS'; obtain ⟨s0, s1, s2, s3, s4, s5, s6, s7, s8, s9⟩ := hS'; go_simp; try rfl)
    simp only [Act.put, List.getElem_toArray, List.getElem_cons_succ, List.getElem_cons_zero, List.setIfInBounds_toArray, List.set_cons_zero, List.set_cons_succ]
    refine wpHJ_take (v := ?vk35) 5 hFa rfl (by kernel_rfl) (fun _ _ _ h => h.elim) (Or.inl ⟨by rfl, ?yk35⟩) hS ?rk35
    case yk35 => (intro w' hS'; obtain ⟨s0, s1, s2, s3, s4, s5, s6, s7, s8, s9⟩ := hS'; go_simp; try rfl)
    simp only [Act.put, List.getElem_toArray, List.getElem_cons_succ, List.getElem_cons_zero, List.setIfInBounds_toArray, List.set_cons_zero, List.set_cons_succ]
    refine wpHJ_pure (v := ?vk36) 6 hFa rfl (by kernel_rfl) (fun _ _ _ h => h.elim) (Or.inl ⟨by rfl, ?yk36⟩) (.inr hS) ?rk36
    case yk36 => (intro w' _; go_simp; try rfl)
    simp only [Act.put, List.getElem_toArray, List.getElem_cons_succ, List.getElem_cons_zero, List.setIfInBounds_toArray, List.set_cons_zero, List.set_cons_succ]
    refine wpHJ_pure (v := ?vk37) 7 hFa rfl (by kernel_rfl) (fun _ _ _ h => h.elim) (Or.inl ⟨by rfl, ?yk37⟩) (.inr hS) ?rk37
    case yk37 => (intro w' _; go_simp; try rfl)
    simp only [Act.put, List.getElem_toArray, List.getElem_cons_succ, List.getElem_cons_zero, List.setIfInBounds_toArray, List.set_cons_zero, List.set_cons_succ]
    clear hS
    have HBd := hid (show Below W1.heap.size W1 W1.drew from ⟨rfl, rfl, rfl, Nat.le_refl _, fun _ _ => rfl⟩)
    generalize W1.drew = wd at *
    refine wpHJ_only 0 (by kernel_rfl) rfl ?_
    intro K hK
    go_simp
    (with_reducible refine (callsIn_wide.2 (kinds_any _)).mono ?_)
    unfold kindsV wSecure wLeak wInc wReject
    rintro e w2 ⟨rfl, hb2⟩
    have HB2 := hid (HBd.out.trans (hb2.mono HBd.out.size))
    clear hb2
    refine hK _ _ (.inr (.inr (HS.out w2 HB2.out))) ?_
    clear hK K
    refine wpHJ_pure (v := ?vk33) 3 hFa rfl (by kernel_rfl) (fun _ _ _ h => h.elim) (Or.inl ⟨by rfl, ?yk33⟩) (.inr (HS.out w2 HB2.out)) ?rk33
    case yk33 => (intro w' _; go_simp; try rfl)
    simp only [Act.put, List.getElem_toArray, List.getElem_cons_succ, List.getElem_cons_zero, List.setIfInBounds_toArray, List.set_cons_zero, List.set_cons_succ]
    refine wpHJ_pure (v := ?vk34) 4 hFa rfl (by kernel_rfl) (fun _ _ _ h => h.elim) (Or.inl ⟨by rfl, ?yk34⟩) (.inr (HS.out w2 HB2.out)) ?rk34
    case yk34 => (intro w' _; go_simp; try rfl)
    simp only [Act.put, List.getElem_toArray, List.getElem_cons_succ, List.getElem_cons_zero, List.setIfInBounds_toArray, List.set_cons_zero, List.set_cons_succ]
    refine wpHJ_only 8 (by kernel_rfl) rfl ?_
    intro K hK
    go_simp
    (with_reducible refine (callsIn_wide.2 (HCALL.out w2 HB2.out)).mono ?_)
    rintro e w3 hp3
    obtain ⟨hb3, p3, c3, rfl, hs3⟩ := hp3
    refine hK _ _ (.inr (.inr (HS.out w3 (HB2.out.trans (hb3.mono HB2.out.size))))) ?_
    clear hK K
    refine wpHJ_pure (v := ?vk39) 9 hFa rfl (by kernel_rfl) (fun _ _ _ h => h.elim) (Or.inl ⟨by rfl, ?yk39⟩) (.inr (HS.out w3 (HB2.out.trans (hb3.mono HB2.out.size)))) ?rk39
    case yk39 => (intro w' _; go_simp; try rfl)
    simp only [Act.put, List.getElem_toArray, List.getElem_cons_succ, List.getElem_cons_zero, List.setIfInBounds_toArray, List.set_cons_zero, List.set_cons_succ]
    refine wpHJ_pure (v := ?vk310) 10 hFa rfl (by kernel_rfl) (fun _ _ _ h => h.elim) (Or.inl ⟨by rfl, ?yk310⟩) (.inr (HS.out w3 (HB2.out.trans (hb3.mono HB2.out.size)))) ?rk310
    case yk310 => (intro w' _; go_simp; try rfl)
    simp only [Act.put, List.getElem_toArray, List.getElem_cons_succ, List.getElem_cons_zero, List.setIfInBounds_toArray, List.set_cons_zero, List.set_cons_succ]
    refine wpHJ_pure (v := ?vk311) 11 hFa rfl (by kernel_rfl) (fun _ _ _ h => h.elim) (Or.inl ⟨by rfl, ?yk311⟩) (.inr (HS.out w3 (HB2.out.trans (hb3.mono HB2.out.size)))) ?rk311
    case yk311 => (intro w' _; go_simp; try rfl)
    simp only [Act.put, List.getElem_toArray, List.getElem_cons_succ, List.getElem_cons_zero, List.setIfInBounds_toArray, List.set_cons_zero, List.set_cons_succ]
    refine wpHJ_only 12 (by kernel_rfl) rfl ?_
    intro K hK
    go_simp
    refine hK _ _ (.inl rfl) ?_
    clear hK K
    refine wpHJ_done (by kernel_rfl) ?_ _
    simp only [onlyN, Exit.then]
    clear hFa
    go_wp2
    go_ret2
    rw [HV.out]
    exact vpost_from HB1.out (vpost_from (HB2.out) ⟨hb3, p3, c3, rfl, hs3⟩)

set_option maxRecDepth 100000 in
set_option maxHeartbeats 2000000 in
theorem lines_big (k r : Nat) (lv : Int) (A B : List (List Nat)) (imp pol : Bool) (ln co er : Int) (pA pB : Option Addr) (cA cB : Nat) (levels chans : List By) (vl vc : Value) (w : World) (h : 3 < k) (hk : k ≤ 255) :
    Calls Tryd.prog 15 #[.agg #[.int .u8 (k : Int), .int .u8 (r : Int), .int .i64 lv, .slice pA A.length cA, .slice pB B.length cB, .bool imp, .bool pol, .int .i64 ln, .int .i64 co, .int .i64 er], vl, vc] w (VPost (vlinesR (⟨k, r, lv, A, B, imp, pol, ln, co, er⟩ : Vd) levels chans) w) := by
  have hb0 : Below w.heap.size w (w.alloc (.cells #[.int .u8 (k : Int), .int .u8 (r : Int), .int .i64 lv, .slice pA A.length cA, .slice pB B.length cB, .bool imp, .bool pol, .int .i64 ln, .int .i64 co, .int .i64 er] 35)) := (Below.refl _ _).alloc (Nat.le_refl _) _
  have HB0 := hid hb0
  have HV := hid (show vlinesR (⟨k, r, lv, A, B, imp, pol, ln, co, er⟩ : Vd) levels chans = ([], 3) from by unfold vlinesR; rw [if_pos h])
  have a1 : decide (3 < (k : Int)) = true := by simp; omega
  have a2 : 3 < k := h
  clear hb0
  go_enter Tryd.func15, Tryd.ntmps15
  go_wp2
  go_ret2
  exact vpost_nil HV.out HB0.out
theorem lines_any (v : Vd) (pA pB : Option Addr) (cA cB : Nat) (levels chans : List By) (vl vc : Value) (R : Nat → Prop) (w : World) (hv : VdOk v) (hvl : Strs R w vl levels) (hvc : Strs R w vc chans) (hA : NLL R w (.slice pA v.A.length cA) v.A) (hB : NLL R w (.slice pB v.B.length cB) v.B) (hR : ∀ i, R i → i < w.heap.size)
    (hls : ∀ s ∈ levels, s.length ≤ 140737488355328) (hcs : ∀ s ∈ chans, s.length ≤ 140737488355328) (hcl : chans.length ≤ 1000000) (ht : Tabs w) :
    Calls Tryd.prog 15 #[vdV v (.slice pA v.A.length cA) (.slice pB v.B.length cB), vl, vc] w (VPost (vlinesR v levels chans) w) := by
  obtain ⟨k, r, lv, A, B, imp, pol, ln, co, er⟩ := v
  obtain ⟨hk, hr, hlv, hln, hco, her, hAn, hBn⟩ := hv
  rcases Nat.lt_or_ge 3 k with h | h
  · exact lines_big k r lv A B imp pol ln co er pA pB cA cB levels chans vl vc w h hk
  · obtain rfl | rfl | rfl | rfl : k = 0 ∨ k = 1 ∨ k = 2 ∨ k = 3 := by omega
    · exact lines_k0 r lv A B imp pol ln co er pA pB cA cB levels chans vl vc R w hvl hvc hA hB hR hr hAn hBn hlv hln hco hls hcs hcl ht
    · exact lines_k1 r lv A B imp pol ln co er pA pB cA cB levels chans vl vc R w hvl hvc hA hB hR hr hAn hBn hlv hln hco hls hcs hcl ht
    · exact lines_k2 r lv A B imp pol ln co er pA pB cA cB levels chans vl vc R w hvl hvc hA hB hR hr hAn hBn hlv hln hco hls hcs hcl ht
    · exact lines_k3 r lv A B imp pol ln co er pA pB cA cB levels chans vl vc R w hvl hvc hA hB hR hr hAn hBn hlv hln hco hls hcs hcl ht

end Go.Proofs.YtehjfmbnebeioaaDoor
