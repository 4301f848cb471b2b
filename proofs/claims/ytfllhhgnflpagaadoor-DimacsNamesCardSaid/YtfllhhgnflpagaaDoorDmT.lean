/-
  What every law of law 03 asks first: a formula with two clauses and its text.
-/
import Derived.Test.YtfllhhgnflpagaaDoorDmPr
import Derived.Test.YtfllhhgnflpagaaDoorDmM
import Derived.Test.YtfllhhgnflpagaaDoorDmE
namespace Go.Proofs.YtfllhhgnflpagaaDoor
set_option linter.unusedSimpArgs false
set_option linter.unusedVariables false
open Go.RowKit Go.Shelf
attribute [local go_sem] Oper.semAt_some

theorem parse_any (s : Bs) (w : World) (hE : Env w) : Calls Tryd.prog 15 #[.string ⟨s.toArray⟩] w (ParsePost s w) := by
  by_cases h : 65536 < s.length
  · exact parse_long s w h
  · exact parse_short s w (by omega) hE
def twoF : List (List Int) := [[1, -3], []]
set_option maxRecDepth 100000 in
set_option maxHeartbeats 1000000 in
theorem two_any (w : World) : Calls Tryd.prog 21 #[] w fun e w' => ∃ v, e = .returned (.agg #[.int .i64 3, v]) ∧ LL (fun k => w.heap.size ≤ k ∧ k < w'.heap.size) w' v twoF ∧ Below w.heap.size w w' := by
  go_enter Tryd.func21, Tryd.ntmps21
  go_wp2_with fail
  obtain ⟨W, hW⟩ : ∃ W, (((w.alloc (.cells #[.int .i64 3, .slice (some ⟨w.heap.size + 1 + 1 + 1, 0, none⟩) 2 2] 24)).alloc (.cells #[.int .i64 1, .int .i64 (-3)] 3)).alloc (.cells #[] 3)).alloc (.cells #[.slice (some ⟨w.heap.size + 1, 0, none⟩) 2 2, .slice (some ⟨w.heap.size + 1 + 1, 0, none⟩) 0 0] 34) = W := ⟨_, rfl⟩
  have hb : Below w.heap.size w W := by rw [← hW]; exact ((((Below.refl _ _).alloc (Nat.le_refl _) _).alloc (by simp) _).alloc (by simp; omega) _).alloc (by simp; omega) _
  have hs : W.heap.size = w.heap.size + 4 := by rw [← hW]; simp
  have h0 : W.heap[w.heap.size]? = some (.cells #[.int .i64 3, .slice (some ⟨w.heap.size + 1 + 1 + 1, 0, none⟩) 2 2] 24 (0, 0)) := by
    rw [← hW, heap_al, if_neg (by simp only [World.size_alloc]; omega), heap_al, if_neg (by simp only [World.size_alloc]; omega), heap_al, if_neg (by simp only [World.size_alloc]; omega), heap_al, if_pos rfl]
  have h1 : W.heap[w.heap.size + 1]? = some (.cells #[.int .i64 1, .int .i64 (-3)] 3 (0, 0)) := by
    rw [← hW, heap_al, if_neg (by simp only [World.size_alloc]; omega), heap_al, if_neg (by simp only [World.size_alloc]; omega), heap_al, if_pos (by simp only [World.size_alloc])]
  have h3 : W.heap[w.heap.size + 1 + 1 + 1]? = some (.cells #[.slice (some ⟨w.heap.size + 1, 0, none⟩) 2 2, .slice (some ⟨w.heap.size + 1 + 1, 0, none⟩) 0 0] 34 (0, 0)) := by
    rw [← hW, heap_al, if_pos (by simp only [World.size_alloc])]
  obtain ⟨c0, c1, _⟩ := cell_lit2 h0
  obtain ⟨d0, d1, _⟩ := cell_lit2 h1
  obtain ⟨e0, e1, _⟩ := cell_lit2 h3
  rw [hW]
  refine bodyPost_ret (v := .agg #[.int .i64 3, .slice (some ⟨w.heap.size + 1 + 1 + 1, 0, none⟩) 2 2]) (by simp [results, Tryd.results21, go_sem, c0, c1]) rfl ?_
  refine ⟨_, rfl, ⟨[.slice (some ⟨w.heap.size + 1, 0, none⟩) 2 2, .slice (some ⟨w.heap.size + 1 + 1, 0, none⟩) 0 0], ⟨_, 2, rfl, Nat.le_refl _, by unfold maxLen; omega, by simp, .inr ⟨_, 0, rfl, ⟨by omega, by omega⟩, ?_⟩⟩, rfl, ?_⟩, hb⟩
  · intro j hj
    match j, hj with
    | 0, _ => exact e0
    | 1, _ => exact e1
  · intro i hi hi'
    match i, hi with
    | 0, _ =>
      refine ⟨some ⟨w.heap.size + 1, 0, none⟩, 2, rfl, Nat.le_refl _, by unfold maxLen; omega, (show (2 : Nat) ≤ 140737488355328 by omega), .inr ⟨_, 0, rfl, ⟨by omega, by omega⟩, ?_⟩⟩
      intro j hj
      match j, hj with
      | 0, _ => exact d0
      | 1, _ => exact d1
    | 1, _ => exact ⟨some ⟨w.heap.size + 1 + 1, 0, none⟩, 0, rfl, Nat.le_refl _, by unfold maxLen; omega, (show (0 : Nat) ≤ 140737488355328 by omega), .inl rfl⟩
theorem known_fmt : formatM 3 twoF = ([112, 32, 99, 110, 102, 32, 51, 32, 50, 10, 49, 32, 45, 51, 32, 48, 10, 48, 10], 0) := by decide +kernel
theorem known_lr : runF 1 ps0 true (lr [112, 32, 99, 110, 102, 32, 51, 32, 50, 10, 49, 32, 45, 51, 32, 48, 10, 48, 10] true [] [] []) = .ok (⟨0, 3, twoF, []⟩, false) := by rfl
theorem known_parse : parseM [112, 32, 99, 110, 102, 32, 51, 32, 50, 10, 49, 32, 45, 51, 32, 48, 10, 48, 10] = ((3, twoF), 0, 0) := by
  rw [parseM_F (by decide)]
  unfold parseF
  rw [known_lr]
  rfl
theorem LL.slc {R : Nat → Prop} {w : World} {v : Value} {ls : List (List Int)} (h : LL R w v ls) : ∃ p n c, v = .slice p n c := by
  obtain ⟨vs, ⟨p, c, e, _⟩, _⟩ := h; exact ⟨p, _, c, e⟩
theorem fmt_two {w w1 : World} {v : Value} (h : LL (fun k => w.heap.size ≤ k ∧ k < w1.heap.size) w1 v twoF) (hE : Env w1) : Calls Tryd.prog 13 #[.agg #[.int .i64 3, v]] w1 fun e w' => e = .returned (.tuple #[.string ⟨[112, 32, 99, 110, 102, 32, 51, 32, 50, 10, 49, 32, 45, 51, 32, 48, 10, 48, 10].toArray⟩, .int .i64 0]) ∧ Below w1.heap.size w1 w' := by
  have := format_any 3 twoF v w1 (h.keep fun k hk => ⟨hk.2, rfl⟩) (by decide) (by decide) (by decide) hE
  rw [known_fmt] at this
  exact this
theorem parse_two (w : World) (hE : Env w) : Calls Tryd.prog 15 #[.string ⟨[112, 32, 99, 110, 102, 32, 51, 32, 50, 10, 49, 32, 45, 51, 32, 48, 10, 48, 10].toArray⟩] w fun e w' => ∃ cv, e = .returned (.tuple #[.agg #[.int .i64 3, cv], .int .i64 0, .int .i64 0]) ∧ LL (fun k => w.heap.size ≤ k ∧ k < w'.heap.size) w' cv twoF ∧ Below w.heap.size w w' := by
  have := parse_any [112, 32, 99, 110, 102, 32, 51, 32, 50, 10, 49, 32, 45, 51, 32, 48, 10, 48, 10] w hE
  unfold ParsePost at this
  rw [known_parse] at this
  exact this
set_option maxRecDepth 100000 in
set_option maxHeartbeats 2000000 in
theorem known_any (w : World) (hE : Env w) : Calls Tryd.prog 12 #[] w fun e w' => e = .returned (.bool true) ∧ Below w.heap.size w w' := by
  have HE := hid hE
  clear hE
  go_enter Tryd.func12, Tryd.ntmps12
  go_wp2_with (first
    | (go_at_call 21; refine (two_any _).mono ?_; rintro e w1 ⟨v1, rfl, hl1, hb1⟩; have HF := hid (fmt_two hl1 (HE.out.below hb1)); have HB1 := hid hb1; clear hl1 hb1)
    | (go_at_call 13; refine HF.out.mono ?_; rintro e w2 ⟨rfl, hb2⟩; have HB2 := hid (HB1.out.trans (hb2.mono HB1.out.size)); clear hb2; have HP := hid (parse_two w2 (HE.out.below HB2.out)))
    | (go_at_call 15; refine HP.out.mono ?_; rintro e w3 ⟨v3, rfl, hl3, hb3⟩; obtain ⟨p3, n3, k3, rfl⟩ := hl3.slc; have HB3 := hid (HB2.out.trans (hb3.mono HB2.out.size)); have HL3 := hid hl3; clear hl3 hb3))
  go_wp2_with fail
  have hFa : ∀ f, Fence.wide.fn f := fun _ => trivial
  refine (wpIn_wide (n := 9)).1 ?_
  refine wpIn_onlyN ?_
  refine wpIn_region_HJ (fun W' : World => W'.cell? ⟨w3.heap.size, 0, none⟩ = some (.int .i64 3) ∧ W'.cell? ⟨w3.heap.size, 1, none⟩ = some (.slice p3 n3 k3)) 19 (by kernel_rfl) ?_
  simp only [List.size_toArray, List.length_cons, List.length_nil, Nat.reduceAdd]
  obtain ⟨wk, hwk⟩ : ∃ x, (w3.alloc (.cells #[.int .i64 3, .slice p3 n3 k3] 24)).drew = x := ⟨_, rfl⟩
  have HKS := hid (show w3.heap.size < wk.heap.size from by rw [← hwk]; show w3.heap.size < (w3.alloc _).heap.size; rw [World.size_alloc]; omega)
  have hSk : (fun W' : World => W'.cell? ⟨w3.heap.size, 0, none⟩ = some (.int .i64 3) ∧ W'.cell? ⟨w3.heap.size, 1, none⟩ = some (.slice p3 n3 k3)) wk := ⟨by rw [← hwk]; show (w3.alloc _).cell? _ = _; rw [cell_al, if_pos rfl]; rfl, by rw [← hwk]; show (w3.alloc _).cell? _ = _; rw [cell_al, if_pos rfl]; rfl⟩
  have HBK := hid (show Below w.heap.size w wk from by rw [← hwk]; exact (HB3.out.alloc HB3.out.size _).drew)
  have HLK := hid (show LL (· < wk.heap.size) wk (.slice p3 n3 k3) twoF from HL3.out.keep fun k hk => ⟨by rw [← hwk]; show k < (w3.alloc _).heap.size; rw [World.size_alloc]; omega, by rw [← hwk]; exact Below.heap_alloc _ _ _ hk.2⟩)
  rw [hwk]
  clear hwk
  refine wpHJ_pure (v := ?vk0) 0 hFa rfl (by kernel_rfl) (fun _ _ _ h => h.elim) (Or.inl ⟨by rfl, ?yk0⟩) (.inr hSk) ?rk0
  case yk0 => (intro w' _; go_simp; try rfl)
  simp only [Act.put, List.getElem_toArray, List.getElem_cons_succ, List.getElem_cons_zero, List.setIfInBounds_toArray, List.set_cons_zero, List.set_cons_succ]
  refine wpHJ_pure (v := ?vk1) 1 hFa rfl (by kernel_rfl) (fun _ _ _ h => h.elim) (Or.inl ⟨by rfl, ?yk1⟩) (.inr hSk) ?rk1
  case yk1 => (intro w' _; go_simp; try rfl)
  simp only [Act.put, List.getElem_toArray, List.getElem_cons_succ, List.getElem_cons_zero, List.setIfInBounds_toArray, List.set_cons_zero, List.set_cons_succ]
  refine wpHJ_pure (v := ?vk2) 2 hFa rfl (by kernel_rfl) (fun _ _ _ h => h.elim) (Or.inl ⟨by rfl, ?yk2⟩) (.inr hSk) ?rk2
  case yk2 => (intro w' _; go_simp; try rfl)
  simp only [Act.put, List.getElem_toArray, List.getElem_cons_succ, List.getElem_cons_zero, List.setIfInBounds_toArray, List.set_cons_zero, List.set_cons_succ]
  refine wpHJ_pure (v := ?vk3) 3 hFa rfl (by kernel_rfl) (fun _ _ _ h => h.elim) (Or.inl ⟨by simp [Region.wanted, yielded], ?yk3⟩) (.inr hSk) ?rk3
  case yk3 => (intro w' _; go_simp; try rfl)
  simp only [Act.put, List.getElem_toArray, List.getElem_cons_succ, List.getElem_cons_zero, List.setIfInBounds_toArray, List.set_cons_zero, List.set_cons_succ]
  refine wpHJ_pure (v := ?vk4) 4 hFa rfl (by kernel_rfl) (fun _ _ _ h => h.elim) (Or.inl ⟨by simp [Region.wanted, yielded], ?yk4⟩) (.inr hSk) ?rk4
  case yk4 => (intro w' _; go_simp; try rfl)
  simp only [Act.put, List.getElem_toArray, List.getElem_cons_succ, List.getElem_cons_zero, List.setIfInBounds_toArray, List.set_cons_zero, List.set_cons_succ]
  refine wpHJ_pure (v := ?vk5) 5 hFa rfl (by kernel_rfl) (fun _ _ _ h => h.elim) (Or.inl ⟨by rfl, ?yk5⟩) (.inr hSk) ?rk5
  case yk5 => (intro w' _; go_simp; try rfl)
  simp only [Act.put, List.getElem_toArray, List.getElem_cons_succ, List.getElem_cons_zero, List.setIfInBounds_toArray, List.set_cons_zero, List.set_cons_succ]
  refine wpHJ_pure (v := ?vk6) 6 hFa rfl (by kernel_rfl) (fun _ _ _ h => h.elim) (Or.inl ⟨by rfl, ?yk6⟩) (.inr hSk) ?rk6
  case yk6 => (intro w' _; go_simp; try rfl)
  simp only [Act.put, List.getElem_toArray, List.getElem_cons_succ, List.getElem_cons_zero, List.setIfInBounds_toArray, List.set_cons_zero, List.set_cons_succ]
  refine wpHJ_take (v := ?vk7) 7 hFa rfl (by kernel_rfl) (fun _ _ _ h => h.elim) (Or.inl ⟨by simp [Region.wanted, yielded], ?yk7⟩) hSk ?rk7
  case yk7 => (intro w' hS'; obtain ⟨hp0, hp1⟩ := hS'; go_simp; try rfl)
  simp only [Act.put, List.getElem_toArray, List.getElem_cons_succ, List.getElem_cons_zero, List.setIfInBounds_toArray, List.set_cons_zero, List.set_cons_succ]
  refine wpHJ_only 8 (by kernel_rfl) rfl ?_
  intro K hK
  rw [if_pos (by simp [Region.wanted, yielded])]
  go_simp
  (with_reducible refine (callsIn_wide.2 (two_any wk)).mono ?_)
  rintro e w5 ⟨v5, rfl, hl5, hb5⟩
  have hS5 : (fun W' : World => W'.cell? ⟨w3.heap.size, 0, none⟩ = some (.int .i64 3) ∧ W'.cell? ⟨w3.heap.size, 1, none⟩ = some (.slice p3 n3 k3)) w5 := ⟨(hb5.cell (p := ⟨w3.heap.size, 0, none⟩) HKS.out).trans hSk.1, (hb5.cell (p := ⟨w3.heap.size, 1, none⟩) HKS.out).trans hSk.2⟩
  have HEQ := hid (eqformula_any 3 3 twoF twoF (.slice p3 n3 k3) v5 w5 (HLK.out.keep fun k hk => ⟨Nat.lt_of_lt_of_le hk hb5.size, hb5.block k hk⟩) (hl5.keep fun k hk => ⟨hk.2, rfl⟩))
  have HB5 := hid (HBK.out.trans (hb5.mono HBK.out.size))
  have HLT5 := hid hb5.size
  clear hl5 hb5
  refine hK _ _ (.inr (.inr hS5)) ?_
  clear hK K
  refine wpHJ_only 9 (by kernel_rfl) rfl ?_
  intro K hK
  rw [if_pos (by simp [Region.wanted, yielded])]
  go_simp
  (with_reducible refine (callsIn_wide.2 HEQ.out).mono ?_)
  rintro e w6 ⟨rfl, hb6⟩
  have hS6 : (fun W' : World => W'.cell? ⟨w3.heap.size, 0, none⟩ = some (.int .i64 3) ∧ W'.cell? ⟨w3.heap.size, 1, none⟩ = some (.slice p3 n3 k3)) w6 := ⟨(hb6.cell (p := ⟨w3.heap.size, 0, none⟩) (Nat.lt_of_lt_of_le HKS.out HLT5.out)).trans hS5.1, (hb6.cell (p := ⟨w3.heap.size, 1, none⟩) (Nat.lt_of_lt_of_le HKS.out HLT5.out)).trans hS5.2⟩
  have HB6 := hid (HB5.out.trans (hb6.mono HB5.out.size))
  clear hb6
  refine hK _ _ (.inr (.inr hS6)) ?_
  clear hK K
  refine wpHJ_pure (v := ?vk10) 10 hFa rfl (by kernel_rfl) (fun _ _ _ h => h.elim) (Or.inl ⟨by rfl, ?yk10⟩) (.inr hS6) ?rk10
  case yk10 => (intro w' _; go_simp; try rfl)
  simp only [Act.put, List.getElem_toArray, List.getElem_cons_succ, List.getElem_cons_zero, List.setIfInBounds_toArray, List.set_cons_zero, List.set_cons_succ]
  refine wpHJ_pure (v := ?vk11) 11 hFa rfl (by kernel_rfl) (fun _ _ _ h => h.elim) (Or.inl ⟨by rfl, ?yk11⟩) (.inr hS6) ?rk11
  case yk11 => (intro w' _; go_simp; try rfl)
  simp only [Act.put, List.getElem_toArray, List.getElem_cons_succ, List.getElem_cons_zero, List.setIfInBounds_toArray, List.set_cons_zero, List.set_cons_succ]
  refine wpHJ_pure (v := ?vk12) 12 hFa rfl (by kernel_rfl) (fun _ _ _ h => h.elim) (Or.inl ⟨by simp [Region.wanted, yielded], ?yk12⟩) (.inr hS6) ?rk12
  case yk12 => (intro w' _; go_simp; try rfl)
  simp only [Act.put, List.getElem_toArray, List.getElem_cons_succ, List.getElem_cons_zero, List.setIfInBounds_toArray, List.set_cons_zero, List.set_cons_succ]
  refine wpHJ_pure (v := ?vk13) 13 hFa rfl (by kernel_rfl) (fun _ _ _ h => h.elim) (Or.inl ⟨by simp [Region.wanted, yielded], ?yk13⟩) (.inr hS6) ?rk13
  case yk13 => (intro w' _; go_simp; try rfl)
  simp only [Act.put, List.getElem_toArray, List.getElem_cons_succ, List.getElem_cons_zero, List.setIfInBounds_toArray, List.set_cons_zero, List.set_cons_succ]
  refine wpHJ_pure (v := ?vk14) 14 hFa rfl (by kernel_rfl) (fun _ _ _ h => h.elim) (Or.inl ⟨by rfl, ?yk14⟩) (.inr hS6) ?rk14
  case yk14 => (intro w' _; go_simp; try rfl)
  simp only [Act.put, List.getElem_toArray, List.getElem_cons_succ, List.getElem_cons_zero, List.setIfInBounds_toArray, List.set_cons_zero, List.set_cons_succ]
  refine wpHJ_pure (v := ?vk15) 15 hFa rfl (by kernel_rfl) (fun _ _ _ h => h.elim) (Or.inl ⟨by rfl, ?yk15⟩) (.inr hS6) ?rk15
  case yk15 => (intro w' _; go_simp; try rfl)
  simp only [Act.put, List.getElem_toArray, List.getElem_cons_succ, List.getElem_cons_zero, List.setIfInBounds_toArray, List.set_cons_zero, List.set_cons_succ]
  refine wpHJ_pure (v := ?vk16) 16 hFa rfl (by kernel_rfl) (fun _ _ _ h => h.elim) (Or.inl ⟨by simp [Region.wanted, yielded], ?yk16⟩) (.inr hS6) ?rk16
  case yk16 => (intro w' _; go_simp; try rfl)
  simp only [Act.put, List.getElem_toArray, List.getElem_cons_succ, List.getElem_cons_zero, List.setIfInBounds_toArray, List.set_cons_zero, List.set_cons_succ]
  refine wpHJ_pure (v := ?vk17) 17 hFa rfl (by kernel_rfl) (fun _ _ _ h => h.elim) (Or.inl ⟨by simp [Region.wanted, yielded], ?yk17⟩) (.inr hS6) ?rk17
  case yk17 => (intro w' _; go_simp; try rfl)
  simp only [Act.put, List.getElem_toArray, List.getElem_cons_succ, List.getElem_cons_zero, List.setIfInBounds_toArray, List.set_cons_zero, List.set_cons_succ]
  refine wpHJ_pure (v := ?vk18) 18 hFa rfl (by kernel_rfl) (fun _ _ _ h => h.elim) (Or.inl ⟨by rfl, ?yk18⟩) (.inr hS6) ?rk18
  case yk18 => (intro w' _; go_simp; try rfl)
  simp only [Act.put, List.getElem_toArray, List.getElem_cons_succ, List.getElem_cons_zero, List.setIfInBounds_toArray, List.set_cons_zero, List.set_cons_succ]
  refine wpHJ_only 19 (by kernel_rfl) rfl ?_
  intro K hK
  go_simp
  refine hK _ _ (.inl rfl) ?_
  clear hK K
  refine wpHJ_done (by kernel_rfl) ?_ _
  simp only [onlyN, Exit.then]
  clear hFa
  go_wp2
  go_ret
  exact ⟨rfl, HB6.out⟩

end Go.Proofs.YtfllhhgnflpagaaDoor
