/-
  The walk of the law's own helper: words made of bytes.
-/
import Derived.Test.YtgldgkaigomceaaDoorTkE
import Derived.Test.YtgldgkaigomceaaDoorTkPB
import Derived.Test.YtgldgkaigomceaaDoorRegA
import Derived.Test.YtgldgkaigomceaaDoorOpB
import Derived.IntWalk
namespace Go.Proofs.YtgldgkaigomceaaDoor
set_option linter.unusedSimpArgs false
set_option linter.unusedVariables false
open Go.RowKit Go.Shelf
attribute [local go_sem] Oper.semAt_some

def strV (s : Bs) : Value := .string ⟨s.toArray⟩
theorem info_str : (Tryd.prog.info? 9).map (fun i => (i.zero, i.size, i.bytes)) = some (some (.string ⟨#[]⟩), 1, 16) := by kernel_rfl
theorem repeat_one (c : UInt8) : ∀ n, Lib.repeatL [c] n = List.replicate n c
  | 0 => rfl
  | n + 1 => by
    show [c] ++ Lib.repeatL [c] n = _
    rw [repeat_one c n]; rfl
theorem conv8 (C : UInt8) (X : Int) (h : (C.toNat : Int) = X) (w : World) : (convert 22 9 (.slice (some ⟨w.heap.size, 0, none⟩) 1 1)).run Tryd.prog (w.alloc (.cells #[.int .u8 X] 5)) = .ok (.string ⟨#[C]⟩) (w.alloc (.cells #[.int .u8 X] 5)) := by
  subst h; exact conv1 C w
/-- What plain comes to. -/
def PlainPost (b : Bs) (most : Nat) (w : World) (e : Ending) (w' : World) : Prop :=
  Below w.heap.size w w' ∧ ∃ p c, e = .returned (.slice p (plainW b most).length c) ∧ Sl (fun k => w.heap.size ≤ k ∧ Soft w' k) w' (.slice p (plainW b most).length c) ((plainW b most).map strV)
theorem plainW_len' (b : Bs) (k : Nat) (h : k ≤ b.length) : (plainW b k).length = k := by simp [plainW]; omega
theorem strs_one (l : List Bs) : ∀ u ∈ l.map strV, u.oneCell' = true := by
  intro u hu
  obtain ⟨s, _, rfl⟩ := List.mem_map.1 hu
  rfl

set_option maxRecDepth 100000 in
set_option maxHeartbeats 4000000 in
theorem plain_any (b : Bs) (most : Nat) (v : Value) (R : Nat → Prop) (w : World) (hv : Bys R w v b) (hR : ∀ k, R k → k < w.heap.size) (hm : most ≤ 1000) :
    Calls Tryd.prog 5 #[v, .int .i64 (most : Int)] w fun e w' => PlainPost b most w e w' := by
  obtain ⟨p, c, rfl, h1, h2, h3, hr⟩ := hv.op
  unfold maxLen at h2
  have HR := hid hr
  clear hv hr
  go_enter Tryd.func5, Tryd.ntmps5
  go_wp2
  go_loopw [5, 6, 7] (fun ov iv cv wr => ∃ k : Nat, k ≤ b.length ∧ k ≤ most ∧ iv = .int .i64 k ∧ wr.ownsRow w.heap.size 9 1 ov k ((plainW b k).map strV) ∧ Below w.heap.size w wr) (fun _ iv _ _ => b.length - (intOf iv).toNat)
  case atStart => exact ⟨0, Nat.zero_le _, Nat.zero_le _, rfl, World.ownsRow_nil _ _ _ _, Below.refl _ _⟩
  case round =>
    obtain ⟨k, hk, hkm, rfl, ho, hb⟩ := hrel
    obtain ⟨wo, rfl⟩ : ∃ wo : World, wo = wr := ⟨_, rfl⟩
    obtain ⟨po, co, rfl⟩ := own_sliceG ho
    have HO := hid ho; have HBL := hid hb
    clear ho hb
    by_cases hlt : k < b.length
    · by_cases hlm : k < most
      · obtain ⟨b0, o0, rfl, hR0, hcc⟩ := HR.out.at8 k hlt
        have hcell0 := hcc k hlt
        have hcell : wo.cell? ⟨b0, o0 + k, none⟩ = some (.int .u8 (b[k].toNat : Int)) := (HBL.out.cell (p := ⟨b0, o0 + k, none⟩) (hR _ hR0)).trans hcell0
        have HC0 := hid hcell0; have HR0 := hid (hR _ hR0)
        have hn := b[k].toNat_lt
        have HSN := hid (plainW_snoc b k hlt)
        clear hcc hcell0
        generalize b[k] = bk at *
        obtain ⟨n, hnn⟩ : ∃ n, bk.toNat = n := ⟨_, rfl⟩
        have HNN := hid hnn
        rw [hnn] at hcell hn HC0
        clear hnn
        by_cases h35 : 33 + n % 94 = 35
        · have a1 : ((33 + (n : Int) % 94) == 35) = true := by simp; omega
          have HP := hid (show pcN n = 36 from by unfold pcN; rw [if_pos h35])
          clear h35
          have HPW := hid (show pw bk = List.replicate (1 + n / 94) (36) from by unfold pw; rw [HNN.out, HP.out]; rfl)
          go_wp2
          have hS : (fun W' : World => W'.cell? ⟨b0, o0 + k, none⟩ = some (.int .u8 (n : Int))) wo.drew := hcell
          have hFa : ∀ f, Fence.wide.fn f := fun _ => trivial
          refine (wpIn_wide (n := 9)).1 ?_
          refine wpIn_onlyN ?_
          refine wpIn_region_HJ (fun W' : World => W'.cell? ⟨b0, o0 + k, none⟩ = some (.int .u8 (n : Int))) 14 (by kernel_rfl) ?_
          simp only [List.size_toArray, List.length_cons, List.length_nil, Nat.reduceAdd]
          refine wpHJ_pure (v := ?va0) 0 hFa rfl (by kernel_rfl) (fun _ _ _ h => h.elim) (Or.inl ⟨by rfl, ?ya0⟩) (.inr hS) ?ra0
          case ya0 => (intro w' _; go_simp; try rfl)
          simp only [Act.put, List.getElem_toArray, List.getElem_cons_succ, List.getElem_cons_zero, List.setIfInBounds_toArray, List.set_cons_zero, List.set_cons_succ]
          refine wpHJ_pure (v := ?va1) 1 hFa rfl (by kernel_rfl) (fun _ _ _ h => h.elim) (Or.inl ⟨by rfl, ?ya1⟩) (.inr hS) ?ra1
          case ya1 => (intro w' _; go_simp; try rfl)
          simp only [Act.put, List.getElem_toArray, List.getElem_cons_succ, List.getElem_cons_zero, List.setIfInBounds_toArray, List.set_cons_zero, List.set_cons_succ]
          refine wpHJ_pure (v := ?va4) 4 hFa rfl (by kernel_rfl) (fun _ _ _ h => h.elim) (Or.inl ⟨by rfl, ?ya4⟩) (.inr hS) ?ra4
          case ya4 => (intro w' _; go_simp; try rfl)
          simp only [Act.put, List.getElem_toArray, List.getElem_cons_succ, List.getElem_cons_zero, List.setIfInBounds_toArray, List.set_cons_zero, List.set_cons_succ]
          refine wpHJ_pure (v := ?va5) 5 hFa rfl (by kernel_rfl) (fun _ _ _ h => h.elim) (Or.inl ⟨by rfl, ?ya5⟩) (.inr hS) ?ra5
          case ya5 => (intro w' _; go_simp; try rfl)
          simp only [Act.put, List.getElem_toArray, List.getElem_cons_succ, List.getElem_cons_zero, List.setIfInBounds_toArray, List.set_cons_zero, List.set_cons_succ]
          refine wpHJ_pure (v := ?va6) 6 hFa rfl (by kernel_rfl) (fun _ _ _ h => h.elim) (Or.inl ⟨by rfl, ?ya6⟩) (.inr hS) ?ra6
          case ya6 => (intro w' _; go_simp; try rfl)
          simp only [Act.put, List.getElem_toArray, List.getElem_cons_succ, List.getElem_cons_zero, List.setIfInBounds_toArray, List.set_cons_zero, List.set_cons_succ]
          refine wpHJ_take (v := ?va7) 7 hFa rfl (by kernel_rfl) (fun _ _ _ h => h.elim) (Or.inl ⟨by rfl, ?ya7⟩) hS ?ra7
          case ya7 => (intro w' hS'; obtain s1 := hS'; go_simp; try rfl)
          simp only [Act.put, List.getElem_toArray, List.getElem_cons_succ, List.getElem_cons_zero, List.setIfInBounds_toArray, List.set_cons_zero, List.set_cons_succ]
          refine wpHJ_pure (v := ?va8) 8 hFa rfl (by kernel_rfl) (fun _ _ _ h => h.elim) (Or.inl ⟨by rfl, ?ya8⟩) (.inr hS) ?ra8
          case ya8 => (intro w' _; go_simp; try rfl)
          simp only [Act.put, List.getElem_toArray, List.getElem_cons_succ, List.getElem_cons_zero, List.setIfInBounds_toArray, List.set_cons_zero, List.set_cons_succ]
          refine wpHJ_pure (v := ?va9) 9 hFa rfl (by kernel_rfl) (fun _ _ _ h => h.elim) (Or.inl ⟨by rfl, ?ya9⟩) (.inr hS) ?ra9
          case ya9 => (intro w' _; go_simp; try rfl)
          simp only [Act.put, List.getElem_toArray, List.getElem_cons_succ, List.getElem_cons_zero, List.setIfInBounds_toArray, List.set_cons_zero, List.set_cons_succ]
          refine wpHJ_pure (v := ?va10) 10 hFa rfl (by kernel_rfl) (fun _ _ _ h => h.elim) (Or.inl ⟨by rfl, ?ya10⟩) (.inr hS) ?ra10
          case ya10 => (intro w' _; go_simp; try rfl)
          simp only [Act.put, List.getElem_toArray, List.getElem_cons_succ, List.getElem_cons_zero, List.setIfInBounds_toArray, List.set_cons_zero, List.set_cons_succ]
          have CE := hid (show ∀ W', Below wo.heap.size wo W' → W'.cell? ⟨b0, o0 + k, none⟩ = some (.int .u8 (n : Int)) from fun W' hW => (hW.cell (p := ⟨b0, o0 + k, none⟩) (by show b0 < _; have := HBL.out.size; have := HR0.out; omega)).trans hcell)
          have hbd : Below wo.heap.size wo wo.drew := ⟨rfl, rfl, rfl, Nat.le_refl _, fun _ _ => rfl⟩
          have hsd : wo.heap.size ≤ wo.drew.heap.size := Nat.le_refl _
          clear hS hcell
          generalize wo.drew = wd at *
          refine wpHJ_only 2 (by kernel_rfl) rfl ?_
          intro K hK
          go_simp
          have hb2 := hbd.alloc hsd (.cells #[.int .u8 36] 5)
          have hcv := conv8 (36) (36) rfl wd
          refine hK _ _ (.inr (.inr (CE.out _ hb2))) ?_
          clear hK K
          refine wpHJ_only 3 (by kernel_rfl) rfl ?_
          intro K hK
          go_simp
          refine hK _ _ (.inr (.inr (CE.out _ hb2))) ?_
          clear hK K
          refine wpHJ_only 11 (by kernel_rfl) rfl ?_
          intro K hK
          go_simp
          have hcnt : IntKind.i64.wrap (1 + IntKind.i64.wrap ((IntKind.i64.wrap (n : Int)).tdiv 94)) = ((1 + n / 94 : Nat) : Int) := by
            rw [IntWalk.i64_in (n : Int) (by omega), Int.tdiv_eq_ediv_of_nonneg (by omega), IntWalk.i64_in ((n : Int) / 94) (by omega), IntWalk.i64_in (1 + (n : Int) / 94) (by omega)]; omega
          rw [hcnt]
          generalize hw2 : wd.alloc _ = w2 at *
          (with_reducible refine (callsIn_wide.2 (Tryd.strings_Repeat ⟨#[36]⟩ (1 + n / 94) w2 (by omega) (by rw [show (⟨#[36]⟩ : ByteArray).size = 1 from rfl]; omega))).mono ?_)
          rintro e w3 ⟨rfl, hb3⟩
          have hb3' := hb2.trans (hb3.mono hb2.size)
          have hrep : (Ending.returned (.string ⟨(Lib.repeatL (⟨#[36]⟩ : ByteArray).data.toList (1 + n / 94)).toArray⟩)) = .returned (.string ⟨(pw bk).toArray⟩) := by
            rw [show (⟨#[36]⟩ : ByteArray).data.toList = [36] from rfl, repeat_one, HPW.out]
          rw [hrep]
          clear hb3 hrep
          refine hK _ _ (.inr (.inr (CE.out _ hb3'))) ?_
          clear hK K
          refine wpHJ_only 12 (by kernel_rfl) rfl ?_
          intro K hK
          go_simp
          have hb4 := hb3'.alloc hb3'.size (.cells #[.string ⟨(pw bk).toArray⟩] 9)
          refine hK _ _ (.inr (.inr (CE.out _ hb4))) ?_
          clear hK K
          refine wpHJ_only 13 (by kernel_rfl) rfl ?_
          intro K hK
          rw [if_pos (by simp [Region.wanted, yielded])]
          refine wpIn_apd hFa (.tmp 27) (.tmp 39) 23 rfl w.heap.size 9 (.string ⟨#[]⟩) 16 Tryd.underlying23 info_str rfl (.slice po k co) k _ rfl ((owns_keepG HO.out fun j hj => hb3'.block j (HO.out.lt j hj).2).alloc _) (some ⟨w3.heap.size, 0, none⟩) 1 1 [strV (pw bk)] rfl rfl (RowR.lit (R := fun _ => True) w3 [strV (pw bk)] 9 trivial) (strs_one [pw bk]) (by omega) (by unfold maxLen; omega) (by rw [World.size_alloc]; have := hb3'.size; have := HBL.out.size; omega) ?_
          intro v5 w5 ho5 hg5 hv5
          simp only [Act.put, List.getElem_toArray, List.getElem_cons_succ, List.getElem_cons_zero, List.setIfInBounds_toArray, List.set_cons_zero, List.set_cons_succ]
          obtain ⟨p5, c5, rfl⟩ := own_sliceG ho5
          have hb5 : Below w.heap.size w w5 := (HBL.out.trans (hb4.mono HBL.out.size)).grown hg5 (by rw [World.size_alloc]; have := hb3'.size; have := HBL.out.size; omega) (fun j hj => (HO.out.lt j hj).1)
          have hcl5 : w5.cell? ⟨b0, o0 + k, none⟩ = some (.int .u8 (n : Int)) := (hb5.cell (p := ⟨b0, o0 + k, none⟩) (HR0.out)).trans HC0.out
          refine hK _ _ (.inr (.inr hcl5)) ?_
          clear hK K
          refine wpHJ_only 14 (by kernel_rfl) rfl ?_
          intro K hK
          go_simp
          refine hK _ _ (.inl rfl) ?_
          clear hK K
          refine wpHJ_done (by kernel_rfl) ?_ _
          simp only [onlyN, Exit.then]
          clear hFa
          go_wp2
          have HO5 := hid (show w5.ownsRow w.heap.size 9 1 (.slice p5 (k + 1) c5) (k + 1) ((plainW b (k + 1)).map strV) from by rw [HSN.out, List.map_append]; exact ho5)
          have HB5 := hid hb5
          clear ho5 hb5
          go_roundw
          case rel => exact ⟨k + 1, by omega, by omega, by go_num, HO5.out, HB5.out⟩
          case measure => simp [intOf]; omega

        · have a1 : ((33 + (n : Int) % 94) == 35) = false := by simp; omega
          have HP := hid (show pcN n = 33 + n % 94 from by unfold pcN; rw [if_neg h35])
          obtain ⟨C, hCC⟩ : ∃ C, UInt8.ofNat (33 + n % 94) = C := ⟨_, rfl⟩
          have HX := hid (show (C.toNat : Int) = 33 + (n : Int) % 94 from by rw [← hCC, UInt8.toNat_ofNat']; omega)
          have HCC := hid hCC
          clear hCC
          clear h35
          have HPW := hid (show pw bk = List.replicate (1 + n / 94) (C) from by unfold pw; rw [HNN.out, HP.out, HCC.out])
          go_wp2
          have hS : (fun W' : World => W'.cell? ⟨b0, o0 + k, none⟩ = some (.int .u8 (n : Int))) wo.drew := hcell
          have hFa : ∀ f, Fence.wide.fn f := fun _ => trivial
          refine (wpIn_wide (n := 9)).1 ?_
          refine wpIn_onlyN ?_
          refine wpIn_region_HJ (fun W' : World => W'.cell? ⟨b0, o0 + k, none⟩ = some (.int .u8 (n : Int))) 14 (by kernel_rfl) ?_
          simp only [List.size_toArray, List.length_cons, List.length_nil, Nat.reduceAdd]
          refine wpHJ_pure (v := ?vb0) 0 hFa rfl (by kernel_rfl) (fun _ _ _ h => h.elim) (Or.inl ⟨by rfl, ?yb0⟩) (.inr hS) ?rb0
          case yb0 => (intro w' _; go_simp; try rfl)
          simp only [Act.put, List.getElem_toArray, List.getElem_cons_succ, List.getElem_cons_zero, List.setIfInBounds_toArray, List.set_cons_zero, List.set_cons_succ]
          refine wpHJ_pure (v := ?vb1) 1 hFa rfl (by kernel_rfl) (fun _ _ _ h => h.elim) (Or.inl ⟨by rfl, ?yb1⟩) (.inr hS) ?rb1
          case yb1 => (intro w' _; go_simp; try rfl)
          simp only [Act.put, List.getElem_toArray, List.getElem_cons_succ, List.getElem_cons_zero, List.setIfInBounds_toArray, List.set_cons_zero, List.set_cons_succ]
          refine wpHJ_pure (v := ?vb4) 4 hFa rfl (by kernel_rfl) (fun _ _ _ h => h.elim) (Or.inl ⟨by rfl, ?yb4⟩) (.inr hS) ?rb4
          case yb4 => (intro w' _; go_simp; try rfl)
          simp only [Act.put, List.getElem_toArray, List.getElem_cons_succ, List.getElem_cons_zero, List.setIfInBounds_toArray, List.set_cons_zero, List.set_cons_succ]
          refine wpHJ_pure (v := ?vb5) 5 hFa rfl (by kernel_rfl) (fun _ _ _ h => h.elim) (Or.inl ⟨by rfl, ?yb5⟩) (.inr hS) ?rb5
          case yb5 => (intro w' _; go_simp; try rfl)
          simp only [Act.put, List.getElem_toArray, List.getElem_cons_succ, List.getElem_cons_zero, List.setIfInBounds_toArray, List.set_cons_zero, List.set_cons_succ]
          refine wpHJ_pure (v := ?vb6) 6 hFa rfl (by kernel_rfl) (fun _ _ _ h => h.elim) (Or.inl ⟨by rfl, ?yb6⟩) (.inr hS) ?rb6
          case yb6 => (intro w' _; go_simp; try rfl)
          simp only [Act.put, List.getElem_toArray, List.getElem_cons_succ, List.getElem_cons_zero, List.setIfInBounds_toArray, List.set_cons_zero, List.set_cons_succ]
          refine wpHJ_take (v := ?vb7) 7 hFa rfl (by kernel_rfl) (fun _ _ _ h => h.elim) (Or.inl ⟨by rfl, ?yb7⟩) hS ?rb7
          case yb7 => (intro w' hS'; obtain s1 := hS'; go_simp; try rfl)
          simp only [Act.put, List.getElem_toArray, List.getElem_cons_succ, List.getElem_cons_zero, List.setIfInBounds_toArray, List.set_cons_zero, List.set_cons_succ]
          refine wpHJ_pure (v := ?vb8) 8 hFa rfl (by kernel_rfl) (fun _ _ _ h => h.elim) (Or.inl ⟨by rfl, ?yb8⟩) (.inr hS) ?rb8
          case yb8 => (intro w' _; go_simp; try rfl)
          simp only [Act.put, List.getElem_toArray, List.getElem_cons_succ, List.getElem_cons_zero, List.setIfInBounds_toArray, List.set_cons_zero, List.set_cons_succ]
          refine wpHJ_pure (v := ?vb9) 9 hFa rfl (by kernel_rfl) (fun _ _ _ h => h.elim) (Or.inl ⟨by rfl, ?yb9⟩) (.inr hS) ?rb9
          case yb9 => (intro w' _; go_simp; try rfl)
          simp only [Act.put, List.getElem_toArray, List.getElem_cons_succ, List.getElem_cons_zero, List.setIfInBounds_toArray, List.set_cons_zero, List.set_cons_succ]
          refine wpHJ_pure (v := ?vb10) 10 hFa rfl (by kernel_rfl) (fun _ _ _ h => h.elim) (Or.inl ⟨by rfl, ?yb10⟩) (.inr hS) ?rb10
          case yb10 => (intro w' _; go_simp; try rfl)
          simp only [Act.put, List.getElem_toArray, List.getElem_cons_succ, List.getElem_cons_zero, List.setIfInBounds_toArray, List.set_cons_zero, List.set_cons_succ]
          have CE := hid (show ∀ W', Below wo.heap.size wo W' → W'.cell? ⟨b0, o0 + k, none⟩ = some (.int .u8 (n : Int)) from fun W' hW => (hW.cell (p := ⟨b0, o0 + k, none⟩) (by show b0 < _; have := HBL.out.size; have := HR0.out; omega)).trans hcell)
          have hbd : Below wo.heap.size wo wo.drew := ⟨rfl, rfl, rfl, Nat.le_refl _, fun _ _ => rfl⟩
          have hsd : wo.heap.size ≤ wo.drew.heap.size := Nat.le_refl _
          clear hS hcell
          generalize wo.drew = wd at *
          refine wpHJ_only 2 (by kernel_rfl) rfl ?_
          intro K hK
          go_simp
          have hb2 := hbd.alloc hsd (.cells #[.int .u8 (33 + (n : Int) % 94)] 5)
          have hcv := conv8 (C) ((33 + (n : Int) % 94)) HX.out wd
          refine hK _ _ (.inr (.inr (CE.out _ hb2))) ?_
          clear hK K
          refine wpHJ_only 3 (by kernel_rfl) rfl ?_
          intro K hK
          go_simp
          refine hK _ _ (.inr (.inr (CE.out _ hb2))) ?_
          clear hK K
          refine wpHJ_only 11 (by kernel_rfl) rfl ?_
          intro K hK
          go_simp
          have hcnt : IntKind.i64.wrap (1 + IntKind.i64.wrap ((IntKind.i64.wrap (n : Int)).tdiv 94)) = ((1 + n / 94 : Nat) : Int) := by
            rw [IntWalk.i64_in (n : Int) (by omega), Int.tdiv_eq_ediv_of_nonneg (by omega), IntWalk.i64_in ((n : Int) / 94) (by omega), IntWalk.i64_in (1 + (n : Int) / 94) (by omega)]; omega
          rw [hcnt]
          generalize hw2 : wd.alloc _ = w2 at *
          (with_reducible refine (callsIn_wide.2 (Tryd.strings_Repeat ⟨#[C]⟩ (1 + n / 94) w2 (by omega) (by rw [show (⟨#[C]⟩ : ByteArray).size = 1 from rfl]; omega))).mono ?_)
          rintro e w3 ⟨rfl, hb3⟩
          have hb3' := hb2.trans (hb3.mono hb2.size)
          have hrep : (Ending.returned (.string ⟨(Lib.repeatL (⟨#[C]⟩ : ByteArray).data.toList (1 + n / 94)).toArray⟩)) = .returned (.string ⟨(pw bk).toArray⟩) := by
            rw [show (⟨#[C]⟩ : ByteArray).data.toList = [C] from rfl, repeat_one, HPW.out]
          rw [hrep]
          clear hb3 hrep
          refine hK _ _ (.inr (.inr (CE.out _ hb3'))) ?_
          clear hK K
          refine wpHJ_only 12 (by kernel_rfl) rfl ?_
          intro K hK
          go_simp
          have hb4 := hb3'.alloc hb3'.size (.cells #[.string ⟨(pw bk).toArray⟩] 9)
          refine hK _ _ (.inr (.inr (CE.out _ hb4))) ?_
          clear hK K
          refine wpHJ_only 13 (by kernel_rfl) rfl ?_
          intro K hK
          rw [if_pos (by simp [Region.wanted, yielded])]
          refine wpIn_apd hFa (.tmp 27) (.tmp 39) 23 rfl w.heap.size 9 (.string ⟨#[]⟩) 16 Tryd.underlying23 info_str rfl (.slice po k co) k _ rfl ((owns_keepG HO.out fun j hj => hb3'.block j (HO.out.lt j hj).2).alloc _) (some ⟨w3.heap.size, 0, none⟩) 1 1 [strV (pw bk)] rfl rfl (RowR.lit (R := fun _ => True) w3 [strV (pw bk)] 9 trivial) (strs_one [pw bk]) (by omega) (by unfold maxLen; omega) (by rw [World.size_alloc]; have := hb3'.size; have := HBL.out.size; omega) ?_
          intro v5 w5 ho5 hg5 hv5
          simp only [Act.put, List.getElem_toArray, List.getElem_cons_succ, List.getElem_cons_zero, List.setIfInBounds_toArray, List.set_cons_zero, List.set_cons_succ]
          obtain ⟨p5, c5, rfl⟩ := own_sliceG ho5
          have hb5 : Below w.heap.size w w5 := (HBL.out.trans (hb4.mono HBL.out.size)).grown hg5 (by rw [World.size_alloc]; have := hb3'.size; have := HBL.out.size; omega) (fun j hj => (HO.out.lt j hj).1)
          have hcl5 : w5.cell? ⟨b0, o0 + k, none⟩ = some (.int .u8 (n : Int)) := (hb5.cell (p := ⟨b0, o0 + k, none⟩) (HR0.out)).trans HC0.out
          refine hK _ _ (.inr (.inr hcl5)) ?_
          clear hK K
          refine wpHJ_only 14 (by kernel_rfl) rfl ?_
          intro K hK
          go_simp
          refine hK _ _ (.inl rfl) ?_
          clear hK K
          refine wpHJ_done (by kernel_rfl) ?_ _
          simp only [onlyN, Exit.then]
          clear hFa
          go_wp2
          have HO5 := hid (show w5.ownsRow w.heap.size 9 1 (.slice p5 (k + 1) c5) (k + 1) ((plainW b (k + 1)).map strV) from by rw [HSN.out, List.map_append]; exact ho5)
          have HB5 := hid hb5
          clear ho5 hb5
          go_roundw
          case rel => exact ⟨k + 1, by omega, by omega, by go_num, HO5.out, HB5.out⟩
          case measure => simp [intOf]; omega

      · obtain rfl : k = most := by omega
        go_wp2
        go_ret
        refine ⟨HBL.out, po, co, ?_, ?_⟩
        · rw [plainW_len' b k hk]; rfl
        · rw [plainW_len' b k hk]
          exact Sl.of_owns HO.out (by omega) fun j hj => ⟨(HO.out.lt j hj).1, owns_soft HO.out j hj⟩
    · obtain rfl : k = b.length := by omega
      have HPE := hid (plainW_all b most b.length (by omega) (Nat.le_refl _))
      go_wp2
      go_ret
      refine ⟨HBL.out, po, co, ?_, ?_⟩
      · rw [HPE.out, plainW_len' b _ (Nat.le_refl _)]; rfl
      · rw [HPE.out, plainW_len' b _ (Nat.le_refl _)]
        exact Sl.of_owns HO.out (by omega) fun j hj => ⟨(HO.out.lt j hj).1, owns_soft HO.out j hj⟩

end Go.Proofs.YtgldgkaigomceaaDoor
