/-
  The reference's Check of a formula.
-/
import Derived.Test.YtfllhhgnflpagaaDoorDmK
import Derived.Test.YtfllhhgnflpagaaDoorReg
namespace Go.Proofs.YtfllhhgnflpagaaDoor
set_option linter.unusedSimpArgs false
set_option linter.unusedVariables false
open Go.RowKit Go.Shelf
attribute [local go_sem] Oper.semAt_some

set_option maxRecDepth 100000 in
set_option maxHeartbeats 800000 in
theorem rccheck_any (n : Int) (cls : List (List Int)) (v : Value) (w : World) (hv : LL (· < w.heap.size) w v cls) (hb : ∀ c ∈ cls, ∀ a ∈ c, -9223372036854775808 ≤ a ∧ a ≤ 9223372036854775807) (hn0 : -9223372036854775808 ≤ n) (hn1 : n ≤ 9223372036854775807) :
    Calls Tryd.prog 23 #[.agg #[.int .i64 n, v]] w fun e w' => e = .returned (.int .i64 (checkM n cls)) ∧ Below w.heap.size w w' := by
  obtain ⟨vs, ⟨p, cap, rfl, h1, h2, h3, hr⟩, hl, hx⟩ := hv
  obtain ⟨L, hL⟩ : ∃ L, vs.length = L := ⟨_, rfl⟩
  have hLc : cls.length = L := by omega
  have HB := hid hb; have HR := hid hr; have HX := hid hx; have HL := hid hLc; have HLL := hid hL
  rw [hL] at h1 h3 ⊢
  clear hb hr hx hl hL
  obtain ⟨e0, he0⟩ : ∃ e0, checkM n cls = e0 := ⟨_, rfl⟩
  have HE := hid he0
  rw [he0]
  have hbw : Below w.heap.size w (w.alloc (.cells #[.int .i64 n, .slice p L cap] 24)) := (Below.refl _ _).alloc (Nat.le_refl _) _
  have q0 : (w.alloc (.cells #[.int .i64 n, .slice p L cap] 24)).cell? ⟨w.heap.size, 0, none⟩ = some (.int .i64 n) := by rw [cell_al, if_pos rfl]; rfl
  have q1 : (w.alloc (.cells #[.int .i64 n, .slice p L cap] 24)).cell? ⟨w.heap.size, 1, none⟩ = some (.slice p L cap) := by rw [cell_al, if_pos rfl]; rfl
  have hsz : w.heap.size < (w.alloc (.cells #[.int .i64 n, .slice p L cap] 24)).heap.size := by rw [World.size_alloc]; omega
  generalize hw1 : World.alloc w (.cells #[.int .i64 n, .slice p L cap] 24) = w1 at *
  have HBW := hid hbw; have HSZ := hid hsz; have HW1 := hid hw1
  clear he0 hLc hbw hsz hw1
  by_cases hneg : n < 0
  · have d1 : decide (n < 0) = true := by simp [hneg]
    have he : e0 = 3 := by rw [← HE.out]; exact checkM_big (.inl hneg)
    subst he
    go_enter Tryd.func23, Tryd.ntmps23
    go_wp2_with (rw [HW1.out])
    go_ret
    exact ⟨rfl, HBW.out⟩
  by_cases hbig : 1048576 < n
  · have d1 : decide (n < 0) = false := by simp; omega
    have d2 : decide (1048576 < n) = true := by simp [hbig]
    have he : e0 = 3 := by rw [← HE.out]; exact checkM_big (.inr hbig)
    subst he
    go_enter Tryd.func23, Tryd.ntmps23
    go_wp2_with (rw [HW1.out])
    go_ret
    exact ⟨rfl, HBW.out⟩
  have hno : ¬ (n < 0 ∨ 1048576 < n) := by omega
  have d1 : decide (n < 0) = false := by simp; omega
  have d2 : decide (1048576 < n) = false := by simp; omega
  have HNO := hid hno
  clear hno
  by_cases hlong : 1048576 < L
  · have d3 : decide (1048576 < (L : Int)) = true := by simp; omega
    have he : e0 = 5 := by rw [← HE.out]; exact checkM_long HNO.out (by have := HL.out; omega)
    subst he
    go_enter Tryd.func23, Tryd.ntmps23
    go_wp2_with (rw [HW1.out])
    go_ret
    exact ⟨rfl, HBW.out⟩
  have d3 : decide (1048576 < (L : Int)) = false := by simp; omega
  go_enter Tryd.func23, Tryd.ntmps23
  go_wp2_with (rw [HW1.out])
  go_loopw [3] (fun i wr => ∃ k : Nat, k ≤ L ∧ i = .int .i64 (k : Int) ∧ wr.cell? ⟨w.heap.size, 0, none⟩ = some (.int .i64 n) ∧ wr.cell? ⟨w.heap.size, 1, none⟩ = some (.slice p L cap) ∧ Below w.heap.size w wr ∧ ∀ j (hj : j < cls.length), j < k → litM n cls[j] = 0) (fun i _ => L - (intOf i).toNat)
  case atStart => exact ⟨0, by omega, rfl, q0, q1, HBW.out, fun j hj h => by omega⟩
  case round =>
    obtain ⟨k, hk, rfl, r0, r1, hbr, hbk⟩ := hrel
    obtain ⟨wo, rfl⟩ : ∃ wo : World, wo = wr := ⟨_, rfl⟩
    have HBR := hid hbr
    by_cases hlt : k < L
    · have hkd : decide ((k : Int) < (L : Int)) = true := by simp; omega
      have hkc : k < cls.length := by have := HL.out; omega
      have hkv : k < vs.length := by have := HLL.out; omega
      obtain ⟨bk, off, rfl, hR1, hcell⟩ := HR.out.at k hkv
      have hck := (hbr.cell (p := ⟨bk, off + k, none⟩) hR1).trans (hcell k hkv)
      have hix := (HX.out k hkc hkv).keep (R' := (· < wo.heap.size)) (fun i hi => ⟨Nat.lt_of_lt_of_le hi hbr.size, hbr.block i hi⟩)
      have HC := hid (fun W (hW : W = wo.drew) => rcheck_any (· < wo.heap.size) n cls[k] vs[k] W (by subst hW; exact Sl.keep hix (fun k h => ⟨h, rfl⟩)) (HB.out _ (List.getElem_mem hkc)) hn0 hn1)
      obtain ⟨vk, hvk⟩ : ∃ vk, vs[k] = vk := ⟨_, rfl⟩
      rw [hvk] at hck HC
      obtain ⟨ek, hek⟩ : ∃ ek, litM n cls[k] = ek := ⟨_, rfl⟩
      rw [hek] at HC
      have HBK := hid hbk; have HEK := hid hek
      have hS : (fun W1 : World => W1.cell? ⟨w.heap.size, 0, none⟩ = some (.int .i64 n) ∧ W1.cell? ⟨w.heap.size, 1, none⟩ = some (.slice (some ⟨bk, off, none⟩) L cap) ∧ W1.cell? ⟨bk, off + k, none⟩ = some vk) wo.drew := ⟨r0, r1, hck⟩
      clear hcell hR1 hbk hix hvk hek hkv hbr
      go_wp2_with fail
      have hFa : ∀ f, Fence.wide.fn f := fun _ => trivial
      refine (wpIn_wide (n := 9)).1 ?_
      refine wpIn_onlyN ?_
      refine wpIn_region_HJ (fun W1 : World => W1.cell? ⟨w.heap.size, 0, none⟩ = some (.int .i64 n) ∧ W1.cell? ⟨w.heap.size, 1, none⟩ = some (.slice (some ⟨bk, off, none⟩) L cap) ∧ W1.cell? ⟨bk, off + k, none⟩ = some vk) 8 (by kernel_rfl) ?_
      simp only [List.size_toArray, List.length_cons, List.length_nil, Nat.reduceAdd]
      refine wpHJ_pure (v := ?va0) 0 hFa rfl (by kernel_rfl) (fun _ _ _ h => h.elim) (Or.inl ⟨by rfl, ?ya0⟩) (.inr hS) ?ra0
      case ya0 => (intro w' _; go_simp; try rfl)
      simp only [Act.put, List.getElem_toArray, List.getElem_cons_succ, List.getElem_cons_zero, List.setIfInBounds_toArray, List.set_cons_zero, List.set_cons_succ]
      refine wpHJ_take (v := ?va1) 1 hFa rfl (by kernel_rfl) (fun _ _ _ h => h.elim) (Or.inl ⟨by rfl, ?ya1⟩) hS ?ra1
      case ya1 => (intro w' hS'; obtain ⟨s1, s2, s3⟩ := hS'; go_simp; try rfl)
      simp only [Act.put, List.getElem_toArray, List.getElem_cons_succ, List.getElem_cons_zero, List.setIfInBounds_toArray, List.set_cons_zero, List.set_cons_succ]
      refine wpHJ_pure (v := ?va2) 2 hFa rfl (by kernel_rfl) (fun _ _ _ h => h.elim) (Or.inl ⟨by rfl, ?ya2⟩) (.inr hS) ?ra2
      case ya2 => (intro w' _; go_simp; try rfl)
      simp only [Act.put, List.getElem_toArray, List.getElem_cons_succ, List.getElem_cons_zero, List.setIfInBounds_toArray, List.set_cons_zero, List.set_cons_succ]
      refine wpHJ_take (v := ?va3) 3 hFa rfl (by kernel_rfl) (fun _ _ _ h => h.elim) (Or.inl ⟨by rfl, ?ya3⟩) hS ?ra3
      case ya3 => (intro w' hS'; obtain ⟨s1, s2, s3⟩ := hS'; go_simp; try rfl)
      simp only [Act.put, List.getElem_toArray, List.getElem_cons_succ, List.getElem_cons_zero, List.setIfInBounds_toArray, List.set_cons_zero, List.set_cons_succ]
      refine wpHJ_pure (v := ?va4) 4 hFa rfl (by kernel_rfl) (fun _ _ _ h => h.elim) (Or.inl ⟨by rfl, ?ya4⟩) (.inr hS) ?ra4
      case ya4 => (intro w' _; go_simp; try rfl)
      simp only [Act.put, List.getElem_toArray, List.getElem_cons_succ, List.getElem_cons_zero, List.setIfInBounds_toArray, List.set_cons_zero, List.set_cons_succ]
      refine wpHJ_pure (v := ?va5) 5 hFa rfl (by kernel_rfl) (fun _ _ _ h => h.elim) (Or.inl ⟨by rfl, ?ya5⟩) (.inr hS) ?ra5
      case ya5 => (intro w' _; go_simp; try rfl)
      simp only [Act.put, List.getElem_toArray, List.getElem_cons_succ, List.getElem_cons_zero, List.setIfInBounds_toArray, List.set_cons_zero, List.set_cons_succ]
      refine wpHJ_take (v := ?va6) 6 hFa rfl (by kernel_rfl) (fun _ _ _ h => h.elim) (Or.inl ⟨by rfl, ?ya6⟩) hS ?ra6
      case ya6 => (intro w' hS'; obtain ⟨s1, s2, s3⟩ := hS'; go_simp; try rfl)
      simp only [Act.put, List.getElem_toArray, List.getElem_cons_succ, List.getElem_cons_zero, List.setIfInBounds_toArray, List.set_cons_zero, List.set_cons_succ]
      refine wpHJ_only 7 (by kernel_rfl) rfl ?_
      intro K hK
      go_simp
      (with_reducible refine (callsIn_wide.2 (HC.out _ rfl)).mono ?_)
      rintro e w5 ⟨rfl, rfl⟩
      go_simp
      refine hK _ _ (.inr (.inr hS)) ?_
      clear hK K
      refine wpHJ_only 8 (by kernel_rfl) rfl ?_
      intro K hK
      go_simp
      refine hK _ _ (.inl rfl) ?_
      clear hK K
      refine wpHJ_done (by kernel_rfl) ?_ _
      simp only [onlyN, Exit.then]
      clear hFa
      have HBD := hid (show Below w.heap.size w wo.drew from HBR.out.drew)
      clear hS
      by_cases hz : ek = 0
      · subst hz
        go_wp2_with fail
        go_roundw
        case rel =>
          refine ⟨k + 1, by omega, by go_num, r0, r1, HBD.out, fun j hj hjk => ?_⟩
          by_cases hjk2 : j < k
          · exact HBK.out j hj hjk2
          · obtain rfl : j = k := by omega
            exact HEK.out
        case measure => (simp [intOf] <;> omega)
      · have hz1 : (ek != 0) = true := by simp [hz]
        have he : e0 = ek := by rw [← HE.out]; exact checkM_of HNO.out (by have := HL.out; omega) ((litsM_bad cls k hkc HBK.out (by rw [HEK.out]; exact hz)).trans HEK.out)
        subst he
        go_wp2_with fail
        go_ret
        exact ⟨rfl, HBD.out⟩
    · obtain rfl : k = L := by omega
      have he : e0 = 0 := by rw [← HE.out]; exact checkM_of HNO.out (by have := HL.out; omega) (litsM_ok cls (fun j hj => hbk j hj (by have := HL.out; omega)))
      subst he
      clear hbk
      go_wp2_with fail
      go_ret
      exact ⟨rfl, HBR.out⟩

end Go.Proofs.YtfllhhgnflpagaaDoor
