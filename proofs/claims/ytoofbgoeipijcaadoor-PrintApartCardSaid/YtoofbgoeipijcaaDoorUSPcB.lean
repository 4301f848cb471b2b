/-
 Law 22: few.
-/
import Derived.Test.YtoofbgoeipijcaaDoorUSPcA
import Derived.Laws.OwnMore
import Derived.Deep.DeepCutAuto
namespace Go.Proofs.YtoofbgoeipijcaaDoor
set_option linter.unusedSimpArgs false
set_option linter.unusedVariables false
open Go.RowKit Go.Shelf
attribute [local go_sem] Oper.semAt_some

/-- What law 22's few makes of an instruction, and of a list of them. -/
def fewI (x : In) : In := { x with args := x.args.take 34 }
def fewL (l : List In) : List In := (l.take 30).map fewI
theorem take_min {α : Type} (l : List α) (n : Nat) : l.take (min l.length n) = l.take n := by
 rcases Nat.le_total l.length n with h | h
 ·rw [Nat.min_eq_left h, List.take_length, List.take_of_length_le h]
 ·rw [Nat.min_eq_right h]
/-- The cell of an instruction's operands in an owned row, and the row when it is written. -/
theorem GF.argAt {B e : Nat} {w : World} {p : Option Addr} {c : Nat} {l : List In} (h : GF kIn B e w (.slice p l.length c) l) (k : Nat) (hk : k < l.length) :
  ∃ g pa ca, p = some ⟨g, 0, none⟩ ∧ B ≤ g ∧ w.cell? ⟨g, k * 7 + 4, none⟩ = some (.slice pa l[k].args.length ca) ∧ l[k].args.length ≤ ca ∧ w.frozen? ⟨g, k * 7 + 4, none⟩ = false ∧
   ∀ m, m ≤ l[k].args.length → GF kIn B e (w.setCell ⟨g, k * 7 + 4, none⟩ (.slice pa m ca)) (.slice p l.length c) (l.set k { l[k] with args := l[k].args.take m }) := by
 obtain ⟨css, h1, h2⟩ := h.row
 have hb0 := h2.lt
 obtain ⟨g, rfl⟩ : ∃ g, p = some ⟨g, 0, none⟩ := by
  rcases h2.2 with ⟨hv, h0⟩ | ⟨g, cap, cur, hv, _⟩
  ·omega
  ·injection hv with hv; exact ⟨g, hv⟩
 have hk' : k < css.length := by rw [h1.1]; exact hk
 have hE := h1.2 k hk hk'
 obtain ⟨av, hcs, hs⟩ := hE
 obtain ⟨pa, ca, rfl⟩ := hs.slc
 have hca : l[k].args.length ≤ ca := by obtain ⟨_, _, _, _, e, h, _⟩ := hs; cases e; exact h
 have hn := h1.lens
 have hat := hn.at k 4 hk' (by decide)
 rw [hcs] at hat
 have hlen : css.flatten.length = l.length * 7 := by rw [hn.len, h1.1]; rfl
 have hlt : k * 7 + 4 < l.length * 7 := by omega
 have hcell := h2.cellAt (k * 7 + 4) (show k * 7 + 4 < l.length * kIn.n from hlt)
 have hat : css.flatten[k * 7 + 4]? = some (.slice pa l[k].args.length ca) := hat
 refine ⟨g, pa, ca, rfl, (hb0 g rfl).1, hcell.trans hat, hca, h2.frozenAt _, fun m hm => ?_⟩
 have hst := (h2.stored (k * 7 + 4) (.slice pa m ca)).1
 have hset := hn.set k 4 hk' (by decide) (.slice pa m ca)
 have hset : (css.set k (css[k].set 4 (.slice pa m ca))).flatten = css.flatten.set (k * 7 + 4) (.slice pa m ca) := hset
 refine ⟨⟨css.set k (css[k].set 4 (.slice pa m ca)), ?_, ?_⟩⟩
 ·have hE2 : Each kIn (fun j => B ≤ j ∧ j < w.heap.size ∧ (Value.slice (some ⟨g, 0, none⟩) l.length c).ownBlock ≠ some j) w (css.set k (css[k].set 4 (.slice pa m ca))) (l.set k { l[k] with args := l[k].args.take m }) :=
   h1.set k ⟨.slice pa m ca, by rw [hcs]; rfl, hs.cut m hm⟩
  refine hE2.keep fun j hj => ⟨⟨hj.1, by rw [World.size_setCell]; exact hj.2.1, hj.2.2⟩, heap_ot (fun e => hj.2.2 (by rw [e]; rfl)) _⟩
 ·rw [hset, List.length_set]; exact hst
theorem few_next (T : List In) (k : Nat) (hk : k < T.length) : ((T.take k).map fewI ++ T.drop k).set k (fewI T[k]) = (T.take (k + 1)).map fewI ++ T.drop (k + 1) := by
 have hl : ((T.take k).map fewI).length = k := by rw [List.length_map, List.length_take]; omega
 rw [List.set_append_right _ _ (by omega), hl, Nat.sub_self, List.drop_eq_getElem_cons hk, List.set_cons_zero, List.take_succ_eq_append_getElem hk, List.map_append, List.append_assoc]; rfl
theorem few_at (T : List In) (k : Nat) (hk : k < T.length) (h : k < ((T.take k).map fewI ++ T.drop k).length) : ((T.take k).map fewI ++ T.drop k)[k] = T[k] := by
 have hl : ((T.take k).map fewI).length = k := by rw [List.length_map, List.length_take]; omega
 rw [List.getElem_append_right (by omega)]
 simp only [hl, Nat.sub_self, List.getElem_drop, Nat.add_zero]
set_option maxRecDepth 100000 in
set_option maxHeartbeats 4000000 in
/-- Law 22's few: instructions copied, their number and their operands cut. -/
theorem few_any (l : List In) (v : Value) (w : World) (h : SlG kIn (· < w.heap.size) w v l) (ha : ∀ x ∈ l, x.args.length ≤ 5864062014805) :
  Calls Tryd.prog 30 #[v] w fun e w' => ∃ v', e = .returned v' ∧ GF kIn w.heap.size 26 w' v' (fewL l) ∧ Below w.heap.size w w' := by
 obtain ⟨p, c, rfl⟩ := h.slc
 obtain ⟨m, hm⟩ : ∃ m, min l.length 30 = m := ⟨_, rfl⟩
 have hm1 : m ≤ l.length := by omega
 have hmn : min (l.length : Int) 30 = (m : Int) := by omega
 have hcap : l.length ≤ c := by obtain ⟨_, _, p, c, e, h2, _⟩ := h; cases e; exact h2
 have hmc : m ≤ c := by omega
 obtain ⟨T, hT⟩ : ∃ T, l.take m = T := ⟨_, rfl⟩
 have HT := hid (show T = l.take 30 from by rw [← hT, ← hm, take_min])
 have HTL := hid (show T.length = m from by rw [← hT, List.length_take]; omega)
 have HM := hid (show m ≤ 30 from by omega)
 have HS := hid (hT ▸ h.cut m hm1)
 have HA := hid (show ∀ x ∈ T, x.args.length ≤ 5864062014805 from by rw [← hT]; exact fun x hx => ha x (List.mem_of_mem_take hx))
 clear h ha hT hcap hm
 go_enter Tryd.func30, Tryd.ntmps30
 go_upto_region 2 with (go_at_call 54; (refine (copyinstrs_any T _ _ HS.out (by rw [HTL.out]; have := HM.out; omega) HA.out).mono ?_); rintro e w1 ⟨v1, rfl, hg, hb⟩; obtain ⟨p1, c1, hv1⟩ := hg.slc; rw [HTL.out] at hv1; subst hv1; have HG1 := hid hg; have HB1 := hid hb; clear hg hb)
 clear hm1 hmn hmc
 go_wp2_with fail
 go_loopw [3] (fun iv wr => ∃ k : Nat, k ≤ m ∧ iv = .int .i64 (k : Int) ∧ GF kIn w.heap.size 26 wr (.slice p1 m c1) ((T.take k).map fewI ++ T.drop k) ∧ Below w.heap.size w wr) (fun iv _ => m - (intOf iv).toNat)
 case atStart => exact ⟨0, Nat.zero_le _, rfl, by simpa using HG1.out, HB1.out⟩
 case round =>
  obtain ⟨k, hk, rfl, hg, hb⟩ := hrel
  have HLL := hid (show ((T.take k).map fewI ++ T.drop k).length = m from by rw [List.length_append, List.length_map, List.length_take, List.length_drop, HTL.out]; omega)
  by_cases hlt : k < m
  ·have hkT : k < T.length := by rw [HTL.out]; exact hlt
   have hkL : k < ((T.take k).map fewI ++ T.drop k).length := by rw [HLL.out]; exact hlt
   have hg2 : GF kIn w.heap.size 26 wr (.slice p1 ((T.take k).map fewI ++ T.drop k).length c1) ((T.take k).map fewI ++ T.drop k) := by rw [HLL.out]; exact hg
   obtain ⟨g, pa, ca, rfl, hB, hc, hcl, hfz, hset⟩ := hg2.argAt k hkL
   rw [few_at T k hkT hkL] at hc hcl hset
   rw [HLL.out] at hset
   obtain ⟨an, han⟩ : ∃ n, T[k].args.length = n := ⟨_, rfl⟩
   obtain ⟨q, hq⟩ : ∃ q, min an 34 = q := ⟨_, rfl⟩
   have hq1 : q ≤ an := by omega
   have hqn : min (an : Int) 34 = (q : Int) := by omega
   have hq3 := hset q (by rw [han]; exact hq1)
   have HSET := hid (show GF kIn w.heap.size 26 (wr.setCell ⟨g, k * 7 + 4, none⟩ (.slice pa q ca)) (.slice (some ⟨g, 0, none⟩) m c1) ((T.take (k + 1)).map fewI ++ T.drop (k + 1)) from by
    rw [← few_next T k hkT]
    have e : fewI T[k] = { T[k] with args := T[k].args.take q } := by unfold fewI; rw [← hq, ← han, take_min]
    rw [e]; exact hq3)
   rw [han] at hc hcl
   have hqc : q ≤ ca := by omega
   have HB := hid hb; have HBg := hid hB; have HLT := hid hlt
   clear hset hq3 hg hg2 hq han hb hB hkT hkL
   go_upto_region 5 with fail
   have hS : (fun W => W.cell? ⟨g, k * 7 + 4, none⟩ = some (.slice pa an ca)) wr.drew := hc
   have hFa : ∀ f, Fence.wide.fn f := fun _ => trivial
   refine (wpIn_wide (n := 9)).1 ?_
   refine wpIn_onlyN ?_
   refine wpIn_region_HJ (fun W => W.cell? ⟨g, k * 7 + 4, none⟩ = some (.slice pa an ca)) 17 (by kernel_rfl) ?_
   simp only [List.size_toArray, List.length_cons, List.length_nil, Nat.reduceAdd]
   refine wpHJ_pure (v := ?vkf0) 0 hFa rfl (by kernel_rfl) (fun _ _ _ h => h.elim) (Or.inl ⟨by rfl, ?ykf0⟩) (.inr hS) ?rkf0
   case ykf0 => (intro w' _; go_simp; try rfl)
   simp only [Act.put, actP]
   refine wpHJ_pure (v := ?vkf1) 1 hFa rfl (by kernel_rfl) (fun _ _ _ h => h.elim) (Or.inl ⟨by rfl, ?ykf1⟩) (.inr hS) ?rkf1
   case ykf1 => (intro w' _; go_simp; try rfl)
   simp only [Act.put, actP]
   refine wpHJ_pure (v := ?vkf2) 2 hFa rfl (by kernel_rfl) (fun _ _ _ h => h.elim) (Or.inl ⟨by rfl, ?ykf2⟩) (.inr hS) ?rkf2
   case ykf2 => (intro w' _; go_simp; try rfl)
   simp only [Act.put, actP]
   refine wpHJ_pure (v := ?vkf3) 3 hFa rfl (by kernel_rfl) (fun _ _ _ h => h.elim) (Or.inl ⟨by rfl, ?ykf3⟩) (.inr hS) ?rkf3
   case ykf3 => (intro w' _; go_simp; try rfl)
   simp only [Act.put, actP]
   refine wpHJ_pure (v := ?vkf4) 4 hFa rfl (by kernel_rfl) (fun _ _ _ h => h.elim) (Or.inl ⟨by rfl, ?ykf4⟩) (.inr hS) ?rkf4
   case ykf4 => (intro w' _; go_simp; try rfl)
   simp only [Act.put, actP]
   refine wpHJ_pure (v := ?vkf5) 5 hFa rfl (by kernel_rfl) (fun _ _ _ h => h.elim) (Or.inl ⟨by rfl, ?ykf5⟩) (.inr hS) ?rkf5
   case ykf5 => (intro w' _; go_simp; try rfl)
   simp only [Act.put, actP]
   refine wpHJ_take (v := ?vkf6) 6 hFa rfl (by kernel_rfl) (fun _ _ _ h => h.elim) (Or.inl ⟨by rfl, ?ykf6⟩) hS ?rkf6
   case ykf6 => (intro w' hS'; obtain s0 := hS'; go_simp; try rfl)
   simp only [Act.put, actP]
   refine wpHJ_pure (v := ?vkf7) 7 hFa rfl (by kernel_rfl) (fun _ _ _ h => h.elim) (Or.inl ⟨by rfl, ?ykf7⟩) (.inr hS) ?rkf7
   case ykf7 => (intro w' _; go_simp; try rfl)
   simp only [Act.put, actP]
   refine wpHJ_pure (v := ?vkf8) 8 hFa rfl (by kernel_rfl) (fun _ _ _ h => h.elim) (Or.inl ⟨by rfl, ?ykf8⟩) (.inr hS) ?rkf8
   case ykf8 => (intro w' _; go_simp; try rfl)
   simp only [Act.put, actP]
   refine wpHJ_pure (v := ?vkf9) 9 hFa rfl (by kernel_rfl) (fun _ _ _ h => h.elim) (Or.inl ⟨by rfl, ?ykf9⟩) (.inr hS) ?rkf9
   case ykf9 => (intro w' _; go_simp; try rfl)
   simp only [Act.put, actP]
   refine wpHJ_pure (v := ?vkf10) 10 hFa rfl (by kernel_rfl) (fun _ _ _ h => h.elim) (Or.inl ⟨by rfl, ?ykf10⟩) (.inr hS) ?rkf10
   case ykf10 => (intro w' _; go_simp; try rfl)
   simp only [Act.put, actP]
   refine wpHJ_take (v := ?vkf11) 11 hFa rfl (by kernel_rfl) (fun _ _ _ h => h.elim) (Or.inl ⟨by rfl, ?ykf11⟩) hS ?rkf11
   case ykf11 => (intro w' hS'; obtain s0 := hS'; go_simp; try rfl)
   simp only [Act.put, actP]
   refine wpHJ_pure (v := ?vkf12) 12 hFa rfl (by kernel_rfl) (fun _ _ _ h => h.elim) (Or.inl ⟨by rfl, ?ykf12⟩) (.inr hS) ?rkf12
   case ykf12 => (intro w' _; go_simp; try rfl)
   simp only [Act.put, actP]
   refine wpHJ_pure (v := ?vkf13) 13 hFa rfl (by kernel_rfl) (fun _ _ _ h => h.elim) (Or.inl ⟨by rfl, ?ykf13⟩) (.inr hS) ?rkf13
   case ykf13 => (intro w' _; go_simp; try rfl)
   simp only [Act.put, actP]
   refine wpHJ_pure (v := ?vkf14) 14 hFa rfl (by kernel_rfl) (fun _ _ _ h => h.elim) (Or.inl ⟨by rfl, ?ykf14⟩) (.inr hS) ?rkf14
   case ykf14 => (intro w' _; go_simp; try rfl)
   simp only [Act.put, actP]
   refine wpHJ_pure (v := ?vkf15) 15 hFa rfl (by kernel_rfl) (fun _ _ _ h => h.elim) (Or.inl ⟨by rfl, ?ykf15⟩) (.inr hS) ?rkf15
   case ykf15 => (intro w' _; go_simp; try rfl)
   simp only [Act.put, actP]
   refine wpHJ_pure (v := ?vkf16) 16 hFa rfl (by kernel_rfl) (fun _ _ _ h => h.elim) (Or.inl ⟨by rfl, ?ykf16⟩) (.inr hS) ?rkf16
   case ykf16 => (intro w' _; go_simp; try rfl)
   simp only [Act.put, actP]
   refine wpHJ_only 17 (by kernel_rfl) rfl ?_
   intro K hK
   go_simp
   refine hK _ _ (.inl rfl) ?_
   clear hK K
   refine wpHJ_done (by kernel_rfl) ?_ _
   simp only [onlyN, Exit.then]
   clear hFa
   clear hS hc hcl hfz hq1 hqn hqc
   go_wp2_with fail
   go_roundw
   case rel => exact ⟨k + 1, HLT.out, by rw [wrap_next HLT.out (show m ≤ 140737488355328 from by have := HM.out; omega)], HSET.out.keep (Below.refl _ _).drew, (HB.out.setCell (p := ⟨g, k * 7 + 4, none⟩) HBg.out _).drew⟩
   case measure => exact meas_next HLT.out (show m ≤ 140737488355328 from by have := HM.out; omega)
  ·obtain rfl : k = m := by omega
   have HG := hid hg; have HB := hid hb
   clear hlt hg hb hk
   go_wp2_with fail
   go_ret
   refine ⟨_, rfl, ?_, HB.out⟩
   have h1 := HG.out
   have e : (T.take k).map fewI ++ T.drop k = fewL l := by
    unfold fewL
    rw [← HT.out, List.drop_of_length_le (by rw [HTL.out]; exact Nat.le_refl _), List.take_of_length_le (by rw [HTL.out]; exact Nat.le_refl _), List.append_nil]
   rw [← e]; exact h1

end Go.Proofs.YtoofbgoeipijcaaDoor
