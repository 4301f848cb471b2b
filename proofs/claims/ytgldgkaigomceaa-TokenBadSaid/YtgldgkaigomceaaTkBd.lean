/-
  The walk of TokenBad: a byte that stands in no text.
-/
import Derived.Test.YtgldgkaigomceaaTkB
import Derived.Test.YtgldgkaigomceaaTkJ
import Derived.Test.YtgldgkaigomceaaKMod
namespace Go.Proofs.Ytgldgkaigomceaa
set_option linter.unusedSimpArgs false
set_option linter.unusedVariables false
open Go.RowKit Go.Shelf
attribute [local go_sem] Oper.semAt_some

/-- strings.Join at one byte. -/
theorem join_any (l : List Bs) (v : Value) (R : Nat → Prop) (sep : Bs) (w : World) (hv : Sl R w v (l.map strV)) (hR : ∀ k, R k → k < w.heap.size) (hlen : (Lib.join l sep).length ≤ 140737488355328) :
    Calls Try.prog 17 #[v, .string ⟨sep.toArray⟩] w fun e w' => e = .returned (.string ⟨(Lib.join l sep).toArray⟩) ∧ Below w.heap.size w w' := by
  obtain ⟨p, c, rfl, h1, h2, h3, hr⟩ := hv
  rw [List.length_map] at h1 h3 ⊢
  rcases l with _ | ⟨x, r⟩
  · exact (Try.strings_Join_none p c ⟨sep.toArray⟩ w).mono fun e w' h => ⟨h.1, by rw [h.2]; exact Below.refl _ _⟩
  · obtain ⟨b, off, rfl, hb, hc⟩ := hr.at 0 (by simp)
    have hml : (((x :: r).map fun s : Bs => (⟨s.toArray⟩ : ByteArray)).map (·.data.toList)) = x :: r := by
      rw [List.map_map]; exact (List.map_congr_left fun s _ => rfl).trans (List.map_id _)
    have := Try.strings_Join b off c ((x :: r).map fun s => ⟨s.toArray⟩) ⟨sep.toArray⟩ w (fun j y hj => by
      rw [List.getElem?_map] at hj
      obtain ⟨s, hs, rfl⟩ := Option.map_eq_some_iff.1 hj
      obtain ⟨hjl, rfl⟩ := List.getElem?_eq_some_iff.1 hs
      rw [hc j (by rw [List.length_map]; exact hjl), List.getElem_map]; rfl) (hR b hb) (by rw [List.length_map]; exact h3) (by rw [List.length_map]; exact h1) (by rw [hml]; exact hlen)
    rw [hml, List.length_map] at this
    exact this
theorem ext_take (l : Bs) (k : Nat) : (⟨l.toArray⟩ : ByteArray).extract 0 k = ⟨(l.take k).toArray⟩ := by
  apply ByteArray.ext
  rw [ByteArray.data_extract]; simp
theorem ext_drop (l : Bs) (k : Nat) : (⟨l.toArray⟩ : ByteArray).extract k l.length = ⟨(l.drop k).toArray⟩ := by
  apply ByteArray.ext
  rw [ByteArray.data_extract]; simp [List.take_of_length_le]
theorem bad_cat1 (l : Bs) (C : UInt8) : (⟨#[120, 10]⟩ : ByteArray) ++ ⟨l.toArray⟩ ++ ⟨#[35]⟩ ++ ⟨#[C]⟩ ++ ⟨#[10, 121]⟩ = ⟨(120 :: 10 :: (l ++ 35 :: C :: 10 :: [121])).toArray⟩ := by
  rw [ByteArray.mk_append_mk, ByteArray.mk_append_mk, ByteArray.mk_append_mk, ByteArray.mk_append_mk]; simp
theorem bad_cat2 (a b : Bs) (C : UInt8) : (⟨#[120, 10]⟩ : ByteArray) ++ ⟨a.toArray⟩ ++ ⟨#[C]⟩ ++ ⟨b.toArray⟩ = ⟨(120 :: 10 :: (a ++ C :: b)).toArray⟩ := by
  rw [ByteArray.mk_append_mk, ByteArray.mk_append_mk, ByteArray.mk_append_mk]; simp

set_option maxRecDepth 100000 in
set_option maxHeartbeats 4000000 in
theorem bad_walk (b : Bs) (v : Value) (x a m : Int) (w : World) (hv : Bys (· < w.heap.size) w v b) (hx : 0 ≤ x ∧ x ≤ 255) (ha : -9223372036854775808 ≤ a ∧ a ≤ 9223372036854775807) (hm : w.cell? ⟨0, 0, none⟩ = some (.int .i64 m)) :
    Calls Try.prog 7 #[v, .int .u8 x, .int .i64 a] w fun e w' => e = .returned (.bool true) ∧ Below w.heap.size w w' := by
  have h0 : 0 < w.heap.size := World.block_lt_of_cell? w _ hm
  have HM := hid hm; have HV := hid hv
  obtain ⟨p, c, rfl, _, _, _, _⟩ := hv.op
  clear hm hv
  by_cases hin : x = 9 ∨ x = 10 ∨ (31 < x ∧ x < 127)
  · have hrest : 0 ≤ x % 100 ∧ x % 100 ≤ 99 := by omega
    by_cases h9 : x = 9
    · have a1 : (x == 9) = true := by simp [h9]
      clear hin h9
      obtain ⟨C, hCC⟩ : ∃ C : UInt8, (C.toNat : Int) = 127 + x % 100 := ⟨UInt8.ofNat (127 + x % 100).toNat, by rw [UInt8.toNat_ofNat']; omega⟩
      have hCb : (C.toNat < 32 ∨ 126 < C.toNat) ∧ C.toNat ≠ 9 ∧ C.toNat ≠ 10 := by omega
      have hcv := fun wx => conv8 C (127 + x % 100) hCC wx
      have HCB := hid hCb; have HCC := hid hCC
      clear hCb hCC
      have HPL := hid (show Calls Try.prog 18 #[.slice p b.length c, .int .i64 30] w fun e w' => PlainPost b 30 w e w' from plain_any b 30 (.slice p b.length c) _ w HV.out (fun k h => h) (by omega))
      go_enter Try.func7, Try.ntmps7
      go_wp2_with fail
      refine HPL.out.mono ?_
      rintro e w1 ⟨hb1, p1, c1, rfl, hs1⟩
      have HB1 := hid hb1; have HS1 := hid hs1
      clear hb1 hs1
      go_wp2_with fail
      refine (join_any (plainW b 30) _ (fun k => w.heap.size ≤ k ∧ Soft w1 k) [32] w1 HS1.out (fun k hk => hk.2.size) (by have := text_len b 30; omega)).mono ?_
      rintro e w2 ⟨rfl, hb2⟩
      have HB2 := hid (HB1.out.trans (hb2.mono HB1.out.size))
      have hlen := text_len b 30
      have HOK := hid (ok_text b 30)
      clear HS1 hb2
      generalize Lib.join (plainW b 30) [32] = l at *
      obtain ⟨k, hk, hkm, hmod⟩ := kmod_nat a (l.length + 1) w ha (by omega) (by omega)
      rw [Int.natCast_succ] at hmod
      have hz : (⟨l.toArray⟩ : ByteArray).size = l.length := size_mk l
      have HMOD := hid hmod
      clear hmod hkm
      go_wp2_with fail
      refine (HMOD.out _).mono ?_
      rintro e w3 ⟨rfl, rfl⟩
      go_wp2_with fail
      rw [bad_cat1]
      have HB3 := hid (show Below w.heap.size w (w2.alloc (.cells #[.int .u8 (127 + x % 100)] 5)) from HB2.out.alloc HB2.out.size _)
      generalize w2.alloc _ = w3 at *
      obtain ⟨o, hto⟩ := tok_com l C HOK.out HCB.out.2.2
      have HL := hid (lines_ok (l := 120 :: 10 :: (l ++ 35 :: C :: 10 :: [121])) (out := o) (by rw [linesR_tok _ (by simp; omega), hto]) m w3 ((HB3.out.cell h0).trans HM.out))
      clear hto
      refine HL.out.mono ?_
      rintro e w4 ⟨hb4, p4, c4, rfl, _, _⟩
      have HB4 := hid (HB3.out.trans (hb4.mono HB3.out.size))
      clear hb4 HL
      go_wp2_with fail
      have HB5 := hid (show Below w.heap.size w (w4.alloc (.cells #[.int .i64 0, .int .i64 0] 24)) from HB4.out.alloc HB4.out.size _)
      generalize w4.alloc _ = w5 at *
      have hkl : k ≤ l.length := by omega
      have HF := hid (fun W' (hW : Below w.heap.size w W') => fails_yes (120 :: 10 :: (l.take k ++ C :: l.drop k)) 2 (k + 1) 2 ((k : Int) + 1) m W' ((hW.cell h0).trans HM.out) (by
        rw [linesR_tok _ (by simp; omega), tok_bad _ _ C (fun d hd => HOK.out d (List.mem_of_mem_take hd)) (fun d hd => HOK.out d (List.mem_of_mem_drop hd)) HCB.out.1 HCB.out.2.1 HCB.out.2.2, List.length_take, Nat.min_eq_left hkl]) rfl (by omega))
      clear HCB HOK
      have q1 : ¬ 9223372036854775807 < 2 + k := by omega
      have q2 : ¬ 9223372036854775807 < 2 + k + 1 := by omega
      have q3 : ¬ 9223372036854775807 < 2 + k + 1 + (l.length - k) := by omega
      have hFa : ∀ f, Fence.wide.fn f := fun _ => trivial
      refine (wpIn_wide (n := 9)).1 ?_
      refine wpIn_onlyN ?_
      refine wpIn_region_HJ (fun _ : World => True) 20 (by kernel_rfl) ?_
      simp only [List.size_toArray, List.length_cons, List.length_nil, Nat.reduceAdd]
      refine wpHJ_pure (v := ?va0) 0 hFa rfl (by kernel_rfl) (fun _ _ _ h => h.elim) (Or.inl ⟨by rfl, ?ya0⟩) (.inr trivial) ?ra0
      case ya0 => (intro w' _; go_simp; try rfl)
      simp only [Act.put, List.getElem_toArray, List.getElem_cons_succ, List.getElem_cons_zero, List.setIfInBounds_toArray, List.set_cons_zero, List.set_cons_succ]
      refine wpHJ_pure (v := ?va1) 1 hFa rfl (by kernel_rfl) (fun _ _ _ h => h.elim) (Or.inl ⟨by rfl, ?ya1⟩) (.inr trivial) ?ra1
      case ya1 => (intro w' _; go_simp; try rfl)
      simp only [Act.put, List.getElem_toArray, List.getElem_cons_succ, List.getElem_cons_zero, List.setIfInBounds_toArray, List.set_cons_zero, List.set_cons_succ]
      refine wpHJ_pure (v := ?va2) 2 hFa rfl (by kernel_rfl) (fun _ _ _ h => h.elim) (Or.inl ⟨by rfl, ?ya2⟩) (.inr trivial) ?ra2
      case ya2 => (intro w' _; go_simp; try rfl)
      simp only [Act.put, List.getElem_toArray, List.getElem_cons_succ, List.getElem_cons_zero, List.setIfInBounds_toArray, List.set_cons_zero, List.set_cons_succ]
      refine wpHJ_pure (v := ?va3) 3 hFa rfl (by kernel_rfl) (fun _ _ _ h => h.elim) (Or.inl ⟨by rfl, ?ya3⟩) (.inr trivial) ?ra3
      case ya3 => (intro w' _; go_simp; try rfl)
      simp only [Act.put, List.getElem_toArray, List.getElem_cons_succ, List.getElem_cons_zero, List.setIfInBounds_toArray, List.set_cons_zero, List.set_cons_succ]
      refine wpHJ_pure (v := ?va4) 4 hFa rfl (by kernel_rfl) (fun _ _ _ h => h.elim) (Or.inl ⟨by rfl, ?ya4⟩) (.inr trivial) ?ra4
      case ya4 => (intro w' _; go_simp; try rfl)
      simp only [Act.put, List.getElem_toArray, List.getElem_cons_succ, List.getElem_cons_zero, List.setIfInBounds_toArray, List.set_cons_zero, List.set_cons_succ]
      refine wpHJ_pure (v := ?va5) 5 hFa rfl (by kernel_rfl) (fun _ _ _ h => h.elim) (Or.inl ⟨by rfl, ?ya5⟩) (.inr trivial) ?ra5
      case ya5 => (intro w' _; go_simp; try rfl)
      simp only [Act.put, List.getElem_toArray, List.getElem_cons_succ, List.getElem_cons_zero, List.setIfInBounds_toArray, List.set_cons_zero, List.set_cons_succ]
      refine wpHJ_pure (v := ?va6) 6 hFa rfl (by kernel_rfl) (fun _ _ _ h => h.elim) (Or.inl ⟨by rfl, ?ya6⟩) (.inr trivial) ?ra6
      case ya6 => (intro w' _; go_simp; try rfl)
      simp only [Act.put, List.getElem_toArray, List.getElem_cons_succ, List.getElem_cons_zero, List.setIfInBounds_toArray, List.set_cons_zero, List.set_cons_succ]
      refine wpHJ_pure (v := ?va7) 7 hFa rfl (by kernel_rfl) (fun _ _ _ h => h.elim) (Or.inl ⟨by rfl, ?ya7⟩) (.inr trivial) ?ra7
      case ya7 => (intro w' _; go_simp; try rfl)
      simp only [Act.put, List.getElem_toArray, List.getElem_cons_succ, List.getElem_cons_zero, List.setIfInBounds_toArray, List.set_cons_zero, List.set_cons_succ]
      refine wpHJ_pure (v := ?va8) 8 hFa rfl (by kernel_rfl) (fun _ _ _ h => h.elim) (Or.inl ⟨by rfl, ?ya8⟩) (.inr trivial) ?ra8
      case ya8 => (intro w' _; go_simp; try rfl)
      simp only [Act.put, List.getElem_toArray, List.getElem_cons_succ, List.getElem_cons_zero, List.setIfInBounds_toArray, List.set_cons_zero, List.set_cons_succ]
      refine wpHJ_pure (v := ?va9) 9 hFa rfl (by kernel_rfl) (fun _ _ _ h => h.elim) (Or.inl ⟨by rfl, ?ya9⟩) (.inr trivial) ?ra9
      case ya9 => (intro w' _; go_simp; try rfl)
      simp only [Act.put, List.getElem_toArray, List.getElem_cons_succ, List.getElem_cons_zero, List.setIfInBounds_toArray, List.set_cons_zero, List.set_cons_succ]
      refine wpHJ_pure (v := ?va10) 10 hFa rfl (by kernel_rfl) (fun _ _ _ h => h.elim) (Or.inl ⟨by rfl, ?ya10⟩) (.inr trivial) ?ra10
      case ya10 => (intro w' _; go_simp; try rfl)
      simp only [Act.put, List.getElem_toArray, List.getElem_cons_succ, List.getElem_cons_zero, List.setIfInBounds_toArray, List.set_cons_zero, List.set_cons_succ]
      refine wpHJ_pure (v := ?va11) 11 hFa rfl (by kernel_rfl) (fun _ _ _ h => h.elim) (Or.inl ⟨by rfl, ?ya11⟩) (.inr trivial) ?ra11
      case ya11 => (intro w' _; go_simp; try rfl)
      simp only [Act.put, List.getElem_toArray, List.getElem_cons_succ, List.getElem_cons_zero, List.setIfInBounds_toArray, List.set_cons_zero, List.set_cons_succ]
      refine wpHJ_only 12 (by kernel_rfl) rfl ?_
      intro K hK
      go_simp
      rw [ext_take, ext_drop, bad_cat2, IntWalk.i64_in ((k : Int) + 1) (by omega)]
      have HB6 := hid (show Below w.heap.size w w5.drew from HB5.out.drew)
      (with_reducible refine (callsIn_wide.2 (HF.out w5.drew HB6.out)).mono ?_)
      rintro e w6 ⟨rfl, hb6⟩
      have HB7 := hid (HB6.out.trans (hb6.mono HB6.out.size))
      clear hb6
      refine hK _ _ (.inr (.inr trivial)) ?_
      clear hK K
      refine wpHJ_pure (v := ?va13) 13 hFa rfl (by kernel_rfl) (fun _ _ _ h => h.elim) (Or.inl ⟨by rfl, ?ya13⟩) (.inr trivial) ?ra13
      case ya13 => (intro w' _; go_simp; try rfl)
      simp only [Act.put, List.getElem_toArray, List.getElem_cons_succ, List.getElem_cons_zero, List.setIfInBounds_toArray, List.set_cons_zero, List.set_cons_succ]
      refine wpHJ_pure (v := ?va14) 14 hFa rfl (by kernel_rfl) (fun _ _ _ h => h.elim) (Or.inl ⟨by simp [Region.wanted, yielded], ?ya14⟩) (.inr trivial) ?ra14
      case ya14 => (intro w' _; go_simp; try rfl)
      simp only [Act.put, List.getElem_toArray, List.getElem_cons_succ, List.getElem_cons_zero, List.setIfInBounds_toArray, List.set_cons_zero, List.set_cons_succ]
      refine wpHJ_pure (v := ?va15) 15 hFa rfl (by kernel_rfl) (fun _ _ _ h => h.elim) (Or.inl ⟨by simp [Region.wanted, yielded], ?ya15⟩) (.inr trivial) ?ra15
      case ya15 => (intro w' _; go_simp; try rfl)
      simp only [Act.put, List.getElem_toArray, List.getElem_cons_succ, List.getElem_cons_zero, List.setIfInBounds_toArray, List.set_cons_zero, List.set_cons_succ]
      refine wpHJ_pure (v := ?va16) 16 hFa rfl (by kernel_rfl) (fun _ _ _ h => h.elim) (Or.inl ⟨by rfl, ?ya16⟩) (.inr trivial) ?ra16
      case ya16 => (intro w' _; go_simp; try rfl)
      simp only [Act.put, List.getElem_toArray, List.getElem_cons_succ, List.getElem_cons_zero, List.setIfInBounds_toArray, List.set_cons_zero, List.set_cons_succ]
      refine wpHJ_pure (v := ?va17) 17 hFa rfl (by kernel_rfl) (fun _ _ _ h => h.elim) (Or.inl ⟨by rfl, ?ya17⟩) (.inr trivial) ?ra17
      case ya17 => (intro w' _; go_simp; try rfl)
      simp only [Act.put, List.getElem_toArray, List.getElem_cons_succ, List.getElem_cons_zero, List.setIfInBounds_toArray, List.set_cons_zero, List.set_cons_succ]
      refine wpHJ_only 18 (by kernel_rfl) rfl ?_
      intro K hK
      rw [if_pos (by simp [Region.wanted, yielded])]
      go_simp
      (with_reducible refine (callsIn_wide.2 (awake_any m w6 ((HB7.out.cell h0).trans HM.out))).mono ?_)
      rintro e w7 ⟨rfl, hb7⟩
      have HB8 := hid (HB7.out.trans (hb7.mono HB7.out.size))
      clear hb7
      refine hK _ _ (.inr (.inr trivial)) ?_
      clear hK K
      refine wpHJ_pure (v := ?va19) 19 hFa rfl (by kernel_rfl) (fun _ _ _ h => h.elim) (Or.inl ⟨by rfl, ?ya19⟩) (.inr trivial) ?ra19
      case ya19 => (intro w' _; go_simp; try rfl)
      simp only [Act.put, List.getElem_toArray, List.getElem_cons_succ, List.getElem_cons_zero, List.setIfInBounds_toArray, List.set_cons_zero, List.set_cons_succ]
      refine wpHJ_only 20 (by kernel_rfl) rfl ?_
      intro K hK
      go_simp
      refine hK _ _ (.inl rfl) ?_
      clear hK K
      refine wpHJ_done (by kernel_rfl) ?_ _
      simp only [onlyN, Exit.then]
      clear hFa
      go_wp2
      go_ret
      exact ⟨rfl, HB8.out⟩

    · have a1 : (x == 9) = false := by simp [h9]
      by_cases h10 : x = 10
      · have a2 : (x == 10) = true := by simp [h10]
        clear hin h9 h10
        obtain ⟨C, hCC⟩ : ∃ C : UInt8, (C.toNat : Int) = 127 + x % 100 := ⟨UInt8.ofNat (127 + x % 100).toNat, by rw [UInt8.toNat_ofNat']; omega⟩
        have hCb : (C.toNat < 32 ∨ 126 < C.toNat) ∧ C.toNat ≠ 9 ∧ C.toNat ≠ 10 := by omega
        have hcv := fun wx => conv8 C (127 + x % 100) hCC wx
        have HCB := hid hCb; have HCC := hid hCC
        clear hCb hCC
        have HPL := hid (show Calls Try.prog 18 #[.slice p b.length c, .int .i64 30] w fun e w' => PlainPost b 30 w e w' from plain_any b 30 (.slice p b.length c) _ w HV.out (fun k h => h) (by omega))
        go_enter Try.func7, Try.ntmps7
        go_wp2_with fail
        refine HPL.out.mono ?_
        rintro e w1 ⟨hb1, p1, c1, rfl, hs1⟩
        have HB1 := hid hb1; have HS1 := hid hs1
        clear hb1 hs1
        go_wp2_with fail
        refine (join_any (plainW b 30) _ (fun k => w.heap.size ≤ k ∧ Soft w1 k) [32] w1 HS1.out (fun k hk => hk.2.size) (by have := text_len b 30; omega)).mono ?_
        rintro e w2 ⟨rfl, hb2⟩
        have HB2 := hid (HB1.out.trans (hb2.mono HB1.out.size))
        have hlen := text_len b 30
        have HOK := hid (ok_text b 30)
        clear HS1 hb2
        generalize Lib.join (plainW b 30) [32] = l at *
        obtain ⟨k, hk, hkm, hmod⟩ := kmod_nat a (l.length + 1) w ha (by omega) (by omega)
        rw [Int.natCast_succ] at hmod
        have hz : (⟨l.toArray⟩ : ByteArray).size = l.length := size_mk l
        have HMOD := hid hmod
        clear hmod hkm
        go_wp2_with fail
        refine (HMOD.out _).mono ?_
        rintro e w3 ⟨rfl, rfl⟩
        go_wp2_with fail
        rw [bad_cat1]
        have HB3 := hid (show Below w.heap.size w (w2.alloc (.cells #[.int .u8 (127 + x % 100)] 5)) from HB2.out.alloc HB2.out.size _)
        generalize w2.alloc _ = w3 at *
        obtain ⟨o, hto⟩ := tok_com l C HOK.out HCB.out.2.2
        have HL := hid (lines_ok (l := 120 :: 10 :: (l ++ 35 :: C :: 10 :: [121])) (out := o) (by rw [linesR_tok _ (by simp; omega), hto]) m w3 ((HB3.out.cell h0).trans HM.out))
        clear hto
        refine HL.out.mono ?_
        rintro e w4 ⟨hb4, p4, c4, rfl, _, _⟩
        have HB4 := hid (HB3.out.trans (hb4.mono HB3.out.size))
        clear hb4 HL
        go_wp2_with fail
        have HB5 := hid (show Below w.heap.size w (w4.alloc (.cells #[.int .i64 0, .int .i64 0] 24)) from HB4.out.alloc HB4.out.size _)
        generalize w4.alloc _ = w5 at *
        have hkl : k ≤ l.length := by omega
        have HF := hid (fun W' (hW : Below w.heap.size w W') => fails_yes (120 :: 10 :: (l.take k ++ C :: l.drop k)) 2 (k + 1) 2 ((k : Int) + 1) m W' ((hW.cell h0).trans HM.out) (by
          rw [linesR_tok _ (by simp; omega), tok_bad _ _ C (fun d hd => HOK.out d (List.mem_of_mem_take hd)) (fun d hd => HOK.out d (List.mem_of_mem_drop hd)) HCB.out.1 HCB.out.2.1 HCB.out.2.2, List.length_take, Nat.min_eq_left hkl]) rfl (by omega))
        clear HCB HOK
        have q1 : ¬ 9223372036854775807 < 2 + k := by omega
        have q2 : ¬ 9223372036854775807 < 2 + k + 1 := by omega
        have q3 : ¬ 9223372036854775807 < 2 + k + 1 + (l.length - k) := by omega
        have hFa : ∀ f, Fence.wide.fn f := fun _ => trivial
        refine (wpIn_wide (n := 9)).1 ?_
        refine wpIn_onlyN ?_
        refine wpIn_region_HJ (fun _ : World => True) 20 (by kernel_rfl) ?_
        simp only [List.size_toArray, List.length_cons, List.length_nil, Nat.reduceAdd]
        refine wpHJ_pure (v := ?vb0) 0 hFa rfl (by kernel_rfl) (fun _ _ _ h => h.elim) (Or.inl ⟨by rfl, ?yb0⟩) (.inr trivial) ?rb0
        case yb0 => (intro w' _; go_simp; try rfl)
        simp only [Act.put, List.getElem_toArray, List.getElem_cons_succ, List.getElem_cons_zero, List.setIfInBounds_toArray, List.set_cons_zero, List.set_cons_succ]
        refine wpHJ_pure (v := ?vb1) 1 hFa rfl (by kernel_rfl) (fun _ _ _ h => h.elim) (Or.inl ⟨by rfl, ?yb1⟩) (.inr trivial) ?rb1
        case yb1 => (intro w' _; go_simp; try rfl)
        simp only [Act.put, List.getElem_toArray, List.getElem_cons_succ, List.getElem_cons_zero, List.setIfInBounds_toArray, List.set_cons_zero, List.set_cons_succ]
        refine wpHJ_pure (v := ?vb2) 2 hFa rfl (by kernel_rfl) (fun _ _ _ h => h.elim) (Or.inl ⟨by rfl, ?yb2⟩) (.inr trivial) ?rb2
        case yb2 => (intro w' _; go_simp; try rfl)
        simp only [Act.put, List.getElem_toArray, List.getElem_cons_succ, List.getElem_cons_zero, List.setIfInBounds_toArray, List.set_cons_zero, List.set_cons_succ]
        refine wpHJ_pure (v := ?vb3) 3 hFa rfl (by kernel_rfl) (fun _ _ _ h => h.elim) (Or.inl ⟨by rfl, ?yb3⟩) (.inr trivial) ?rb3
        case yb3 => (intro w' _; go_simp; try rfl)
        simp only [Act.put, List.getElem_toArray, List.getElem_cons_succ, List.getElem_cons_zero, List.setIfInBounds_toArray, List.set_cons_zero, List.set_cons_succ]
        refine wpHJ_pure (v := ?vb4) 4 hFa rfl (by kernel_rfl) (fun _ _ _ h => h.elim) (Or.inl ⟨by rfl, ?yb4⟩) (.inr trivial) ?rb4
        case yb4 => (intro w' _; go_simp; try rfl)
        simp only [Act.put, List.getElem_toArray, List.getElem_cons_succ, List.getElem_cons_zero, List.setIfInBounds_toArray, List.set_cons_zero, List.set_cons_succ]
        refine wpHJ_pure (v := ?vb5) 5 hFa rfl (by kernel_rfl) (fun _ _ _ h => h.elim) (Or.inl ⟨by rfl, ?yb5⟩) (.inr trivial) ?rb5
        case yb5 => (intro w' _; go_simp; try rfl)
        simp only [Act.put, List.getElem_toArray, List.getElem_cons_succ, List.getElem_cons_zero, List.setIfInBounds_toArray, List.set_cons_zero, List.set_cons_succ]
        refine wpHJ_pure (v := ?vb6) 6 hFa rfl (by kernel_rfl) (fun _ _ _ h => h.elim) (Or.inl ⟨by rfl, ?yb6⟩) (.inr trivial) ?rb6
        case yb6 => (intro w' _; go_simp; try rfl)
        simp only [Act.put, List.getElem_toArray, List.getElem_cons_succ, List.getElem_cons_zero, List.setIfInBounds_toArray, List.set_cons_zero, List.set_cons_succ]
        refine wpHJ_pure (v := ?vb7) 7 hFa rfl (by kernel_rfl) (fun _ _ _ h => h.elim) (Or.inl ⟨by rfl, ?yb7⟩) (.inr trivial) ?rb7
        case yb7 => (intro w' _; go_simp; try rfl)
        simp only [Act.put, List.getElem_toArray, List.getElem_cons_succ, List.getElem_cons_zero, List.setIfInBounds_toArray, List.set_cons_zero, List.set_cons_succ]
        refine wpHJ_pure (v := ?vb8) 8 hFa rfl (by kernel_rfl) (fun _ _ _ h => h.elim) (Or.inl ⟨by rfl, ?yb8⟩) (.inr trivial) ?rb8
        case yb8 => (intro w' _; go_simp; try rfl)
        simp only [Act.put, List.getElem_toArray, List.getElem_cons_succ, List.getElem_cons_zero, List.setIfInBounds_toArray, List.set_cons_zero, List.set_cons_succ]
        refine wpHJ_pure (v := ?vb9) 9 hFa rfl (by kernel_rfl) (fun _ _ _ h => h.elim) (Or.inl ⟨by rfl, ?yb9⟩) (.inr trivial) ?rb9
        case yb9 => (intro w' _; go_simp; try rfl)
        simp only [Act.put, List.getElem_toArray, List.getElem_cons_succ, List.getElem_cons_zero, List.setIfInBounds_toArray, List.set_cons_zero, List.set_cons_succ]
        refine wpHJ_pure (v := ?vb10) 10 hFa rfl (by kernel_rfl) (fun _ _ _ h => h.elim) (Or.inl ⟨by rfl, ?yb10⟩) (.inr trivial) ?rb10
        case yb10 => (intro w' _; go_simp; try rfl)
        simp only [Act.put, List.getElem_toArray, List.getElem_cons_succ, List.getElem_cons_zero, List.setIfInBounds_toArray, List.set_cons_zero, List.set_cons_succ]
        refine wpHJ_pure (v := ?vb11) 11 hFa rfl (by kernel_rfl) (fun _ _ _ h => h.elim) (Or.inl ⟨by rfl, ?yb11⟩) (.inr trivial) ?rb11
        case yb11 => (intro w' _; go_simp; try rfl)
        simp only [Act.put, List.getElem_toArray, List.getElem_cons_succ, List.getElem_cons_zero, List.setIfInBounds_toArray, List.set_cons_zero, List.set_cons_succ]
        refine wpHJ_only 12 (by kernel_rfl) rfl ?_
        intro K hK
        go_simp
        rw [ext_take, ext_drop, bad_cat2, IntWalk.i64_in ((k : Int) + 1) (by omega)]
        have HB6 := hid (show Below w.heap.size w w5.drew from HB5.out.drew)
        (with_reducible refine (callsIn_wide.2 (HF.out w5.drew HB6.out)).mono ?_)
        rintro e w6 ⟨rfl, hb6⟩
        have HB7 := hid (HB6.out.trans (hb6.mono HB6.out.size))
        clear hb6
        refine hK _ _ (.inr (.inr trivial)) ?_
        clear hK K
        refine wpHJ_pure (v := ?vb13) 13 hFa rfl (by kernel_rfl) (fun _ _ _ h => h.elim) (Or.inl ⟨by rfl, ?yb13⟩) (.inr trivial) ?rb13
        case yb13 => (intro w' _; go_simp; try rfl)
        simp only [Act.put, List.getElem_toArray, List.getElem_cons_succ, List.getElem_cons_zero, List.setIfInBounds_toArray, List.set_cons_zero, List.set_cons_succ]
        refine wpHJ_pure (v := ?vb14) 14 hFa rfl (by kernel_rfl) (fun _ _ _ h => h.elim) (Or.inl ⟨by simp [Region.wanted, yielded], ?yb14⟩) (.inr trivial) ?rb14
        case yb14 => (intro w' _; go_simp; try rfl)
        simp only [Act.put, List.getElem_toArray, List.getElem_cons_succ, List.getElem_cons_zero, List.setIfInBounds_toArray, List.set_cons_zero, List.set_cons_succ]
        refine wpHJ_pure (v := ?vb15) 15 hFa rfl (by kernel_rfl) (fun _ _ _ h => h.elim) (Or.inl ⟨by simp [Region.wanted, yielded], ?yb15⟩) (.inr trivial) ?rb15
        case yb15 => (intro w' _; go_simp; try rfl)
        simp only [Act.put, List.getElem_toArray, List.getElem_cons_succ, List.getElem_cons_zero, List.setIfInBounds_toArray, List.set_cons_zero, List.set_cons_succ]
        refine wpHJ_pure (v := ?vb16) 16 hFa rfl (by kernel_rfl) (fun _ _ _ h => h.elim) (Or.inl ⟨by rfl, ?yb16⟩) (.inr trivial) ?rb16
        case yb16 => (intro w' _; go_simp; try rfl)
        simp only [Act.put, List.getElem_toArray, List.getElem_cons_succ, List.getElem_cons_zero, List.setIfInBounds_toArray, List.set_cons_zero, List.set_cons_succ]
        refine wpHJ_pure (v := ?vb17) 17 hFa rfl (by kernel_rfl) (fun _ _ _ h => h.elim) (Or.inl ⟨by rfl, ?yb17⟩) (.inr trivial) ?rb17
        case yb17 => (intro w' _; go_simp; try rfl)
        simp only [Act.put, List.getElem_toArray, List.getElem_cons_succ, List.getElem_cons_zero, List.setIfInBounds_toArray, List.set_cons_zero, List.set_cons_succ]
        refine wpHJ_only 18 (by kernel_rfl) rfl ?_
        intro K hK
        rw [if_pos (by simp [Region.wanted, yielded])]
        go_simp
        (with_reducible refine (callsIn_wide.2 (awake_any m w6 ((HB7.out.cell h0).trans HM.out))).mono ?_)
        rintro e w7 ⟨rfl, hb7⟩
        have HB8 := hid (HB7.out.trans (hb7.mono HB7.out.size))
        clear hb7
        refine hK _ _ (.inr (.inr trivial)) ?_
        clear hK K
        refine wpHJ_pure (v := ?vb19) 19 hFa rfl (by kernel_rfl) (fun _ _ _ h => h.elim) (Or.inl ⟨by rfl, ?yb19⟩) (.inr trivial) ?rb19
        case yb19 => (intro w' _; go_simp; try rfl)
        simp only [Act.put, List.getElem_toArray, List.getElem_cons_succ, List.getElem_cons_zero, List.setIfInBounds_toArray, List.set_cons_zero, List.set_cons_succ]
        refine wpHJ_only 20 (by kernel_rfl) rfl ?_
        intro K hK
        go_simp
        refine hK _ _ (.inl rfl) ?_
        clear hK K
        refine wpHJ_done (by kernel_rfl) ?_ _
        simp only [onlyN, Exit.then]
        clear hFa
        go_wp2
        go_ret
        exact ⟨rfl, HB8.out⟩

      · have a2 : (x == 10) = false := by simp [h10]
        have a3 : decide (31 < x) = true := by simp; omega
        have a4 : decide (x < 127) = true := by simp; omega
        clear hin h9 h10
        obtain ⟨C, hCC⟩ : ∃ C : UInt8, (C.toNat : Int) = 127 + x % 100 := ⟨UInt8.ofNat (127 + x % 100).toNat, by rw [UInt8.toNat_ofNat']; omega⟩
        have hCb : (C.toNat < 32 ∨ 126 < C.toNat) ∧ C.toNat ≠ 9 ∧ C.toNat ≠ 10 := by omega
        have hcv := fun wx => conv8 C (127 + x % 100) hCC wx
        have HCB := hid hCb; have HCC := hid hCC
        clear hCb hCC
        have HPL := hid (show Calls Try.prog 18 #[.slice p b.length c, .int .i64 30] w fun e w' => PlainPost b 30 w e w' from plain_any b 30 (.slice p b.length c) _ w HV.out (fun k h => h) (by omega))
        go_enter Try.func7, Try.ntmps7
        go_wp2_with fail
        refine HPL.out.mono ?_
        rintro e w1 ⟨hb1, p1, c1, rfl, hs1⟩
        have HB1 := hid hb1; have HS1 := hid hs1
        clear hb1 hs1
        go_wp2_with fail
        refine (join_any (plainW b 30) _ (fun k => w.heap.size ≤ k ∧ Soft w1 k) [32] w1 HS1.out (fun k hk => hk.2.size) (by have := text_len b 30; omega)).mono ?_
        rintro e w2 ⟨rfl, hb2⟩
        have HB2 := hid (HB1.out.trans (hb2.mono HB1.out.size))
        have hlen := text_len b 30
        have HOK := hid (ok_text b 30)
        clear HS1 hb2
        generalize Lib.join (plainW b 30) [32] = l at *
        obtain ⟨k, hk, hkm, hmod⟩ := kmod_nat a (l.length + 1) w ha (by omega) (by omega)
        rw [Int.natCast_succ] at hmod
        have hz : (⟨l.toArray⟩ : ByteArray).size = l.length := size_mk l
        have HMOD := hid hmod
        clear hmod hkm
        go_wp2_with fail
        refine (HMOD.out _).mono ?_
        rintro e w3 ⟨rfl, rfl⟩
        go_wp2_with fail
        rw [bad_cat1]
        have HB3 := hid (show Below w.heap.size w (w2.alloc (.cells #[.int .u8 (127 + x % 100)] 5)) from HB2.out.alloc HB2.out.size _)
        generalize w2.alloc _ = w3 at *
        obtain ⟨o, hto⟩ := tok_com l C HOK.out HCB.out.2.2
        have HL := hid (lines_ok (l := 120 :: 10 :: (l ++ 35 :: C :: 10 :: [121])) (out := o) (by rw [linesR_tok _ (by simp; omega), hto]) m w3 ((HB3.out.cell h0).trans HM.out))
        clear hto
        refine HL.out.mono ?_
        rintro e w4 ⟨hb4, p4, c4, rfl, _, _⟩
        have HB4 := hid (HB3.out.trans (hb4.mono HB3.out.size))
        clear hb4 HL
        go_wp2_with fail
        have HB5 := hid (show Below w.heap.size w (w4.alloc (.cells #[.int .i64 0, .int .i64 0] 24)) from HB4.out.alloc HB4.out.size _)
        generalize w4.alloc _ = w5 at *
        have hkl : k ≤ l.length := by omega
        have HF := hid (fun W' (hW : Below w.heap.size w W') => fails_yes (120 :: 10 :: (l.take k ++ C :: l.drop k)) 2 (k + 1) 2 ((k : Int) + 1) m W' ((hW.cell h0).trans HM.out) (by
          rw [linesR_tok _ (by simp; omega), tok_bad _ _ C (fun d hd => HOK.out d (List.mem_of_mem_take hd)) (fun d hd => HOK.out d (List.mem_of_mem_drop hd)) HCB.out.1 HCB.out.2.1 HCB.out.2.2, List.length_take, Nat.min_eq_left hkl]) rfl (by omega))
        clear HCB HOK
        have q1 : ¬ 9223372036854775807 < 2 + k := by omega
        have q2 : ¬ 9223372036854775807 < 2 + k + 1 := by omega
        have q3 : ¬ 9223372036854775807 < 2 + k + 1 + (l.length - k) := by omega
        have hFa : ∀ f, Fence.wide.fn f := fun _ => trivial
        refine (wpIn_wide (n := 9)).1 ?_
        refine wpIn_onlyN ?_
        refine wpIn_region_HJ (fun _ : World => True) 20 (by kernel_rfl) ?_
        simp only [List.size_toArray, List.length_cons, List.length_nil, Nat.reduceAdd]
        refine wpHJ_pure (v := ?vc0) 0 hFa rfl (by kernel_rfl) (fun _ _ _ h => h.elim) (Or.inl ⟨by rfl, ?yc0⟩) (.inr trivial) ?rc0
        case yc0 => (intro w' _; go_simp; try rfl)
        simp only [Act.put, List.getElem_toArray, List.getElem_cons_succ, List.getElem_cons_zero, List.setIfInBounds_toArray, List.set_cons_zero, List.set_cons_succ]
        refine wpHJ_pure (v := ?vc1) 1 hFa rfl (by kernel_rfl) (fun _ _ _ h => h.elim) (Or.inl ⟨by rfl, ?yc1⟩) (.inr trivial) ?rc1
        case yc1 => (intro w' _; go_simp; try rfl)
        simp only [Act.put, List.getElem_toArray, List.getElem_cons_succ, List.getElem_cons_zero, List.setIfInBounds_toArray, List.set_cons_zero, List.set_cons_succ]
        refine wpHJ_pure (v := ?vc2) 2 hFa rfl (by kernel_rfl) (fun _ _ _ h => h.elim) (Or.inl ⟨by rfl, ?yc2⟩) (.inr trivial) ?rc2
        case yc2 => (intro w' _; go_simp; try rfl)
        simp only [Act.put, List.getElem_toArray, List.getElem_cons_succ, List.getElem_cons_zero, List.setIfInBounds_toArray, List.set_cons_zero, List.set_cons_succ]
        refine wpHJ_pure (v := ?vc3) 3 hFa rfl (by kernel_rfl) (fun _ _ _ h => h.elim) (Or.inl ⟨by rfl, ?yc3⟩) (.inr trivial) ?rc3
        case yc3 => (intro w' _; go_simp; try rfl)
        simp only [Act.put, List.getElem_toArray, List.getElem_cons_succ, List.getElem_cons_zero, List.setIfInBounds_toArray, List.set_cons_zero, List.set_cons_succ]
        refine wpHJ_pure (v := ?vc4) 4 hFa rfl (by kernel_rfl) (fun _ _ _ h => h.elim) (Or.inl ⟨by rfl, ?yc4⟩) (.inr trivial) ?rc4
        case yc4 => (intro w' _; go_simp; try rfl)
        simp only [Act.put, List.getElem_toArray, List.getElem_cons_succ, List.getElem_cons_zero, List.setIfInBounds_toArray, List.set_cons_zero, List.set_cons_succ]
        refine wpHJ_pure (v := ?vc5) 5 hFa rfl (by kernel_rfl) (fun _ _ _ h => h.elim) (Or.inl ⟨by rfl, ?yc5⟩) (.inr trivial) ?rc5
        case yc5 => (intro w' _; go_simp; try rfl)
        simp only [Act.put, List.getElem_toArray, List.getElem_cons_succ, List.getElem_cons_zero, List.setIfInBounds_toArray, List.set_cons_zero, List.set_cons_succ]
        refine wpHJ_pure (v := ?vc6) 6 hFa rfl (by kernel_rfl) (fun _ _ _ h => h.elim) (Or.inl ⟨by rfl, ?yc6⟩) (.inr trivial) ?rc6
        case yc6 => (intro w' _; go_simp; try rfl)
        simp only [Act.put, List.getElem_toArray, List.getElem_cons_succ, List.getElem_cons_zero, List.setIfInBounds_toArray, List.set_cons_zero, List.set_cons_succ]
        refine wpHJ_pure (v := ?vc7) 7 hFa rfl (by kernel_rfl) (fun _ _ _ h => h.elim) (Or.inl ⟨by rfl, ?yc7⟩) (.inr trivial) ?rc7
        case yc7 => (intro w' _; go_simp; try rfl)
        simp only [Act.put, List.getElem_toArray, List.getElem_cons_succ, List.getElem_cons_zero, List.setIfInBounds_toArray, List.set_cons_zero, List.set_cons_succ]
        refine wpHJ_pure (v := ?vc8) 8 hFa rfl (by kernel_rfl) (fun _ _ _ h => h.elim) (Or.inl ⟨by rfl, ?yc8⟩) (.inr trivial) ?rc8
        case yc8 => (intro w' _; go_simp; try rfl)
        simp only [Act.put, List.getElem_toArray, List.getElem_cons_succ, List.getElem_cons_zero, List.setIfInBounds_toArray, List.set_cons_zero, List.set_cons_succ]
        refine wpHJ_pure (v := ?vc9) 9 hFa rfl (by kernel_rfl) (fun _ _ _ h => h.elim) (Or.inl ⟨by rfl, ?yc9⟩) (.inr trivial) ?rc9
        case yc9 => (intro w' _; go_simp; try rfl)
        simp only [Act.put, List.getElem_toArray, List.getElem_cons_succ, List.getElem_cons_zero, List.setIfInBounds_toArray, List.set_cons_zero, List.set_cons_succ]
        refine wpHJ_pure (v := ?vc10) 10 hFa rfl (by kernel_rfl) (fun _ _ _ h => h.elim) (Or.inl ⟨by rfl, ?yc10⟩) (.inr trivial) ?rc10
        case yc10 => (intro w' _; go_simp; try rfl)
        simp only [Act.put, List.getElem_toArray, List.getElem_cons_succ, List.getElem_cons_zero, List.setIfInBounds_toArray, List.set_cons_zero, List.set_cons_succ]
        refine wpHJ_pure (v := ?vc11) 11 hFa rfl (by kernel_rfl) (fun _ _ _ h => h.elim) (Or.inl ⟨by rfl, ?yc11⟩) (.inr trivial) ?rc11
        case yc11 => (intro w' _; go_simp; try rfl)
        simp only [Act.put, List.getElem_toArray, List.getElem_cons_succ, List.getElem_cons_zero, List.setIfInBounds_toArray, List.set_cons_zero, List.set_cons_succ]
        refine wpHJ_only 12 (by kernel_rfl) rfl ?_
        intro K hK
        go_simp
        rw [ext_take, ext_drop, bad_cat2, IntWalk.i64_in ((k : Int) + 1) (by omega)]
        have HB6 := hid (show Below w.heap.size w w5.drew from HB5.out.drew)
        (with_reducible refine (callsIn_wide.2 (HF.out w5.drew HB6.out)).mono ?_)
        rintro e w6 ⟨rfl, hb6⟩
        have HB7 := hid (HB6.out.trans (hb6.mono HB6.out.size))
        clear hb6
        refine hK _ _ (.inr (.inr trivial)) ?_
        clear hK K
        refine wpHJ_pure (v := ?vc13) 13 hFa rfl (by kernel_rfl) (fun _ _ _ h => h.elim) (Or.inl ⟨by rfl, ?yc13⟩) (.inr trivial) ?rc13
        case yc13 => (intro w' _; go_simp; try rfl)
        simp only [Act.put, List.getElem_toArray, List.getElem_cons_succ, List.getElem_cons_zero, List.setIfInBounds_toArray, List.set_cons_zero, List.set_cons_succ]
        refine wpHJ_pure (v := ?vc14) 14 hFa rfl (by kernel_rfl) (fun _ _ _ h => h.elim) (Or.inl ⟨by simp [Region.wanted, yielded], ?yc14⟩) (.inr trivial) ?rc14
        case yc14 => (intro w' _; go_simp; try rfl)
        simp only [Act.put, List.getElem_toArray, List.getElem_cons_succ, List.getElem_cons_zero, List.setIfInBounds_toArray, List.set_cons_zero, List.set_cons_succ]
        refine wpHJ_pure (v := ?vc15) 15 hFa rfl (by kernel_rfl) (fun _ _ _ h => h.elim) (Or.inl ⟨by simp [Region.wanted, yielded], ?yc15⟩) (.inr trivial) ?rc15
        case yc15 => (intro w' _; go_simp; try rfl)
        simp only [Act.put, List.getElem_toArray, List.getElem_cons_succ, List.getElem_cons_zero, List.setIfInBounds_toArray, List.set_cons_zero, List.set_cons_succ]
        refine wpHJ_pure (v := ?vc16) 16 hFa rfl (by kernel_rfl) (fun _ _ _ h => h.elim) (Or.inl ⟨by rfl, ?yc16⟩) (.inr trivial) ?rc16
        case yc16 => (intro w' _; go_simp; try rfl)
        simp only [Act.put, List.getElem_toArray, List.getElem_cons_succ, List.getElem_cons_zero, List.setIfInBounds_toArray, List.set_cons_zero, List.set_cons_succ]
        refine wpHJ_pure (v := ?vc17) 17 hFa rfl (by kernel_rfl) (fun _ _ _ h => h.elim) (Or.inl ⟨by rfl, ?yc17⟩) (.inr trivial) ?rc17
        case yc17 => (intro w' _; go_simp; try rfl)
        simp only [Act.put, List.getElem_toArray, List.getElem_cons_succ, List.getElem_cons_zero, List.setIfInBounds_toArray, List.set_cons_zero, List.set_cons_succ]
        refine wpHJ_only 18 (by kernel_rfl) rfl ?_
        intro K hK
        rw [if_pos (by simp [Region.wanted, yielded])]
        go_simp
        (with_reducible refine (callsIn_wide.2 (awake_any m w6 ((HB7.out.cell h0).trans HM.out))).mono ?_)
        rintro e w7 ⟨rfl, hb7⟩
        have HB8 := hid (HB7.out.trans (hb7.mono HB7.out.size))
        clear hb7
        refine hK _ _ (.inr (.inr trivial)) ?_
        clear hK K
        refine wpHJ_pure (v := ?vc19) 19 hFa rfl (by kernel_rfl) (fun _ _ _ h => h.elim) (Or.inl ⟨by rfl, ?yc19⟩) (.inr trivial) ?rc19
        case yc19 => (intro w' _; go_simp; try rfl)
        simp only [Act.put, List.getElem_toArray, List.getElem_cons_succ, List.getElem_cons_zero, List.setIfInBounds_toArray, List.set_cons_zero, List.set_cons_succ]
        refine wpHJ_only 20 (by kernel_rfl) rfl ?_
        intro K hK
        go_simp
        refine hK _ _ (.inl rfl) ?_
        clear hK K
        refine wpHJ_done (by kernel_rfl) ?_ _
        simp only [onlyN, Exit.then]
        clear hFa
        go_wp2
        go_ret
        exact ⟨rfl, HB8.out⟩

  · have a1 : (x == 9) = false := by simp; omega
    have a2 : (x == 10) = false := by simp; omega
    by_cases h31 : 31 < x
    · have a3 : decide (31 < x) = true := by simp; omega
      have a4 : decide (x < 127) = false := by simp; omega
      obtain ⟨C, hCC⟩ : ∃ C : UInt8, (C.toNat : Int) = x := ⟨UInt8.ofNat (x).toNat, by rw [UInt8.toNat_ofNat']; omega⟩
      have hCb : (C.toNat < 32 ∨ 126 < C.toNat) ∧ C.toNat ≠ 9 ∧ C.toNat ≠ 10 := by omega
      have hcv := fun wx => conv8 C (x) hCC wx
      have HCB := hid hCb; have HCC := hid hCC
      clear hCb hCC
      have HPL := hid (show Calls Try.prog 18 #[.slice p b.length c, .int .i64 30] w fun e w' => PlainPost b 30 w e w' from plain_any b 30 (.slice p b.length c) _ w HV.out (fun k h => h) (by omega))
      go_enter Try.func7, Try.ntmps7
      go_wp2_with fail
      refine HPL.out.mono ?_
      rintro e w1 ⟨hb1, p1, c1, rfl, hs1⟩
      have HB1 := hid hb1; have HS1 := hid hs1
      clear hb1 hs1
      go_wp2_with fail
      refine (join_any (plainW b 30) _ (fun k => w.heap.size ≤ k ∧ Soft w1 k) [32] w1 HS1.out (fun k hk => hk.2.size) (by have := text_len b 30; omega)).mono ?_
      rintro e w2 ⟨rfl, hb2⟩
      have HB2 := hid (HB1.out.trans (hb2.mono HB1.out.size))
      have hlen := text_len b 30
      have HOK := hid (ok_text b 30)
      clear HS1 hb2
      generalize Lib.join (plainW b 30) [32] = l at *
      obtain ⟨k, hk, hkm, hmod⟩ := kmod_nat a (l.length + 1) w ha (by omega) (by omega)
      rw [Int.natCast_succ] at hmod
      have hz : (⟨l.toArray⟩ : ByteArray).size = l.length := size_mk l
      have HMOD := hid hmod
      clear hmod hkm
      go_wp2_with fail
      refine (HMOD.out _).mono ?_
      rintro e w3 ⟨rfl, rfl⟩
      go_wp2_with fail
      rw [bad_cat1]
      have HB3 := hid (show Below w.heap.size w (w2.alloc (.cells #[.int .u8 (x)] 5)) from HB2.out.alloc HB2.out.size _)
      generalize w2.alloc _ = w3 at *
      obtain ⟨o, hto⟩ := tok_com l C HOK.out HCB.out.2.2
      have HL := hid (lines_ok (l := 120 :: 10 :: (l ++ 35 :: C :: 10 :: [121])) (out := o) (by rw [linesR_tok _ (by simp; omega), hto]) m w3 ((HB3.out.cell h0).trans HM.out))
      clear hto
      refine HL.out.mono ?_
      rintro e w4 ⟨hb4, p4, c4, rfl, _, _⟩
      have HB4 := hid (HB3.out.trans (hb4.mono HB3.out.size))
      clear hb4 HL
      go_wp2_with fail
      have HB5 := hid (show Below w.heap.size w (w4.alloc (.cells #[.int .i64 0, .int .i64 0] 24)) from HB4.out.alloc HB4.out.size _)
      generalize w4.alloc _ = w5 at *
      have hkl : k ≤ l.length := by omega
      have HF := hid (fun W' (hW : Below w.heap.size w W') => fails_yes (120 :: 10 :: (l.take k ++ C :: l.drop k)) 2 (k + 1) 2 ((k : Int) + 1) m W' ((hW.cell h0).trans HM.out) (by
        rw [linesR_tok _ (by simp; omega), tok_bad _ _ C (fun d hd => HOK.out d (List.mem_of_mem_take hd)) (fun d hd => HOK.out d (List.mem_of_mem_drop hd)) HCB.out.1 HCB.out.2.1 HCB.out.2.2, List.length_take, Nat.min_eq_left hkl]) rfl (by omega))
      clear HCB HOK
      have q1 : ¬ 9223372036854775807 < 2 + k := by omega
      have q2 : ¬ 9223372036854775807 < 2 + k + 1 := by omega
      have q3 : ¬ 9223372036854775807 < 2 + k + 1 + (l.length - k) := by omega
      have hFa : ∀ f, Fence.wide.fn f := fun _ => trivial
      refine (wpIn_wide (n := 9)).1 ?_
      refine wpIn_onlyN ?_
      refine wpIn_region_HJ (fun _ : World => True) 20 (by kernel_rfl) ?_
      simp only [List.size_toArray, List.length_cons, List.length_nil, Nat.reduceAdd]
      refine wpHJ_pure (v := ?vd0) 0 hFa rfl (by kernel_rfl) (fun _ _ _ h => h.elim) (Or.inl ⟨by rfl, ?yd0⟩) (.inr trivial) ?rd0
      case yd0 => (intro w' _; go_simp; try rfl)
      simp only [Act.put, List.getElem_toArray, List.getElem_cons_succ, List.getElem_cons_zero, List.setIfInBounds_toArray, List.set_cons_zero, List.set_cons_succ]
      refine wpHJ_pure (v := ?vd1) 1 hFa rfl (by kernel_rfl) (fun _ _ _ h => h.elim) (Or.inl ⟨by rfl, ?yd1⟩) (.inr trivial) ?rd1
      case yd1 => (intro w' _; go_simp; try rfl)
      simp only [Act.put, List.getElem_toArray, List.getElem_cons_succ, List.getElem_cons_zero, List.setIfInBounds_toArray, List.set_cons_zero, List.set_cons_succ]
      refine wpHJ_pure (v := ?vd2) 2 hFa rfl (by kernel_rfl) (fun _ _ _ h => h.elim) (Or.inl ⟨by rfl, ?yd2⟩) (.inr trivial) ?rd2
      case yd2 => (intro w' _; go_simp; try rfl)
      simp only [Act.put, List.getElem_toArray, List.getElem_cons_succ, List.getElem_cons_zero, List.setIfInBounds_toArray, List.set_cons_zero, List.set_cons_succ]
      refine wpHJ_pure (v := ?vd3) 3 hFa rfl (by kernel_rfl) (fun _ _ _ h => h.elim) (Or.inl ⟨by rfl, ?yd3⟩) (.inr trivial) ?rd3
      case yd3 => (intro w' _; go_simp; try rfl)
      simp only [Act.put, List.getElem_toArray, List.getElem_cons_succ, List.getElem_cons_zero, List.setIfInBounds_toArray, List.set_cons_zero, List.set_cons_succ]
      refine wpHJ_pure (v := ?vd4) 4 hFa rfl (by kernel_rfl) (fun _ _ _ h => h.elim) (Or.inl ⟨by rfl, ?yd4⟩) (.inr trivial) ?rd4
      case yd4 => (intro w' _; go_simp; try rfl)
      simp only [Act.put, List.getElem_toArray, List.getElem_cons_succ, List.getElem_cons_zero, List.setIfInBounds_toArray, List.set_cons_zero, List.set_cons_succ]
      refine wpHJ_pure (v := ?vd5) 5 hFa rfl (by kernel_rfl) (fun _ _ _ h => h.elim) (Or.inl ⟨by rfl, ?yd5⟩) (.inr trivial) ?rd5
      case yd5 => (intro w' _; go_simp; try rfl)
      simp only [Act.put, List.getElem_toArray, List.getElem_cons_succ, List.getElem_cons_zero, List.setIfInBounds_toArray, List.set_cons_zero, List.set_cons_succ]
      refine wpHJ_pure (v := ?vd6) 6 hFa rfl (by kernel_rfl) (fun _ _ _ h => h.elim) (Or.inl ⟨by rfl, ?yd6⟩) (.inr trivial) ?rd6
      case yd6 => (intro w' _; go_simp; try rfl)
      simp only [Act.put, List.getElem_toArray, List.getElem_cons_succ, List.getElem_cons_zero, List.setIfInBounds_toArray, List.set_cons_zero, List.set_cons_succ]
      refine wpHJ_pure (v := ?vd7) 7 hFa rfl (by kernel_rfl) (fun _ _ _ h => h.elim) (Or.inl ⟨by rfl, ?yd7⟩) (.inr trivial) ?rd7
      case yd7 => (intro w' _; go_simp; try rfl)
      simp only [Act.put, List.getElem_toArray, List.getElem_cons_succ, List.getElem_cons_zero, List.setIfInBounds_toArray, List.set_cons_zero, List.set_cons_succ]
      refine wpHJ_pure (v := ?vd8) 8 hFa rfl (by kernel_rfl) (fun _ _ _ h => h.elim) (Or.inl ⟨by rfl, ?yd8⟩) (.inr trivial) ?rd8
      case yd8 => (intro w' _; go_simp; try rfl)
      simp only [Act.put, List.getElem_toArray, List.getElem_cons_succ, List.getElem_cons_zero, List.setIfInBounds_toArray, List.set_cons_zero, List.set_cons_succ]
      refine wpHJ_pure (v := ?vd9) 9 hFa rfl (by kernel_rfl) (fun _ _ _ h => h.elim) (Or.inl ⟨by rfl, ?yd9⟩) (.inr trivial) ?rd9
      case yd9 => (intro w' _; go_simp; try rfl)
      simp only [Act.put, List.getElem_toArray, List.getElem_cons_succ, List.getElem_cons_zero, List.setIfInBounds_toArray, List.set_cons_zero, List.set_cons_succ]
      refine wpHJ_pure (v := ?vd10) 10 hFa rfl (by kernel_rfl) (fun _ _ _ h => h.elim) (Or.inl ⟨by rfl, ?yd10⟩) (.inr trivial) ?rd10
      case yd10 => (intro w' _; go_simp; try rfl)
      simp only [Act.put, List.getElem_toArray, List.getElem_cons_succ, List.getElem_cons_zero, List.setIfInBounds_toArray, List.set_cons_zero, List.set_cons_succ]
      refine wpHJ_pure (v := ?vd11) 11 hFa rfl (by kernel_rfl) (fun _ _ _ h => h.elim) (Or.inl ⟨by rfl, ?yd11⟩) (.inr trivial) ?rd11
      case yd11 => (intro w' _; go_simp; try rfl)
      simp only [Act.put, List.getElem_toArray, List.getElem_cons_succ, List.getElem_cons_zero, List.setIfInBounds_toArray, List.set_cons_zero, List.set_cons_succ]
      refine wpHJ_only 12 (by kernel_rfl) rfl ?_
      intro K hK
      go_simp
      rw [ext_take, ext_drop, bad_cat2, IntWalk.i64_in ((k : Int) + 1) (by omega)]
      have HB6 := hid (show Below w.heap.size w w5.drew from HB5.out.drew)
      (with_reducible refine (callsIn_wide.2 (HF.out w5.drew HB6.out)).mono ?_)
      rintro e w6 ⟨rfl, hb6⟩
      have HB7 := hid (HB6.out.trans (hb6.mono HB6.out.size))
      clear hb6
      refine hK _ _ (.inr (.inr trivial)) ?_
      clear hK K
      refine wpHJ_pure (v := ?vd13) 13 hFa rfl (by kernel_rfl) (fun _ _ _ h => h.elim) (Or.inl ⟨by rfl, ?yd13⟩) (.inr trivial) ?rd13
      case yd13 => (intro w' _; go_simp; try rfl)
      simp only [Act.put, List.getElem_toArray, List.getElem_cons_succ, List.getElem_cons_zero, List.setIfInBounds_toArray, List.set_cons_zero, List.set_cons_succ]
      refine wpHJ_pure (v := ?vd14) 14 hFa rfl (by kernel_rfl) (fun _ _ _ h => h.elim) (Or.inl ⟨by simp [Region.wanted, yielded], ?yd14⟩) (.inr trivial) ?rd14
      case yd14 => (intro w' _; go_simp; try rfl)
      simp only [Act.put, List.getElem_toArray, List.getElem_cons_succ, List.getElem_cons_zero, List.setIfInBounds_toArray, List.set_cons_zero, List.set_cons_succ]
      refine wpHJ_pure (v := ?vd15) 15 hFa rfl (by kernel_rfl) (fun _ _ _ h => h.elim) (Or.inl ⟨by simp [Region.wanted, yielded], ?yd15⟩) (.inr trivial) ?rd15
      case yd15 => (intro w' _; go_simp; try rfl)
      simp only [Act.put, List.getElem_toArray, List.getElem_cons_succ, List.getElem_cons_zero, List.setIfInBounds_toArray, List.set_cons_zero, List.set_cons_succ]
      refine wpHJ_pure (v := ?vd16) 16 hFa rfl (by kernel_rfl) (fun _ _ _ h => h.elim) (Or.inl ⟨by rfl, ?yd16⟩) (.inr trivial) ?rd16
      case yd16 => (intro w' _; go_simp; try rfl)
      simp only [Act.put, List.getElem_toArray, List.getElem_cons_succ, List.getElem_cons_zero, List.setIfInBounds_toArray, List.set_cons_zero, List.set_cons_succ]
      refine wpHJ_pure (v := ?vd17) 17 hFa rfl (by kernel_rfl) (fun _ _ _ h => h.elim) (Or.inl ⟨by rfl, ?yd17⟩) (.inr trivial) ?rd17
      case yd17 => (intro w' _; go_simp; try rfl)
      simp only [Act.put, List.getElem_toArray, List.getElem_cons_succ, List.getElem_cons_zero, List.setIfInBounds_toArray, List.set_cons_zero, List.set_cons_succ]
      refine wpHJ_only 18 (by kernel_rfl) rfl ?_
      intro K hK
      rw [if_pos (by simp [Region.wanted, yielded])]
      go_simp
      (with_reducible refine (callsIn_wide.2 (awake_any m w6 ((HB7.out.cell h0).trans HM.out))).mono ?_)
      rintro e w7 ⟨rfl, hb7⟩
      have HB8 := hid (HB7.out.trans (hb7.mono HB7.out.size))
      clear hb7
      refine hK _ _ (.inr (.inr trivial)) ?_
      clear hK K
      refine wpHJ_pure (v := ?vd19) 19 hFa rfl (by kernel_rfl) (fun _ _ _ h => h.elim) (Or.inl ⟨by rfl, ?yd19⟩) (.inr trivial) ?rd19
      case yd19 => (intro w' _; go_simp; try rfl)
      simp only [Act.put, List.getElem_toArray, List.getElem_cons_succ, List.getElem_cons_zero, List.setIfInBounds_toArray, List.set_cons_zero, List.set_cons_succ]
      refine wpHJ_only 20 (by kernel_rfl) rfl ?_
      intro K hK
      go_simp
      refine hK _ _ (.inl rfl) ?_
      clear hK K
      refine wpHJ_done (by kernel_rfl) ?_ _
      simp only [onlyN, Exit.then]
      clear hFa
      go_wp2
      go_ret
      exact ⟨rfl, HB8.out⟩

    · have a3 : decide (31 < x) = false := by simp; omega
      obtain ⟨C, hCC⟩ : ∃ C : UInt8, (C.toNat : Int) = x := ⟨UInt8.ofNat (x).toNat, by rw [UInt8.toNat_ofNat']; omega⟩
      have hCb : (C.toNat < 32 ∨ 126 < C.toNat) ∧ C.toNat ≠ 9 ∧ C.toNat ≠ 10 := by omega
      have hcv := fun wx => conv8 C (x) hCC wx
      have HCB := hid hCb; have HCC := hid hCC
      clear hCb hCC
      have HPL := hid (show Calls Try.prog 18 #[.slice p b.length c, .int .i64 30] w fun e w' => PlainPost b 30 w e w' from plain_any b 30 (.slice p b.length c) _ w HV.out (fun k h => h) (by omega))
      go_enter Try.func7, Try.ntmps7
      go_wp2_with fail
      refine HPL.out.mono ?_
      rintro e w1 ⟨hb1, p1, c1, rfl, hs1⟩
      have HB1 := hid hb1; have HS1 := hid hs1
      clear hb1 hs1
      go_wp2_with fail
      refine (join_any (plainW b 30) _ (fun k => w.heap.size ≤ k ∧ Soft w1 k) [32] w1 HS1.out (fun k hk => hk.2.size) (by have := text_len b 30; omega)).mono ?_
      rintro e w2 ⟨rfl, hb2⟩
      have HB2 := hid (HB1.out.trans (hb2.mono HB1.out.size))
      have hlen := text_len b 30
      have HOK := hid (ok_text b 30)
      clear HS1 hb2
      generalize Lib.join (plainW b 30) [32] = l at *
      obtain ⟨k, hk, hkm, hmod⟩ := kmod_nat a (l.length + 1) w ha (by omega) (by omega)
      rw [Int.natCast_succ] at hmod
      have hz : (⟨l.toArray⟩ : ByteArray).size = l.length := size_mk l
      have HMOD := hid hmod
      clear hmod hkm
      go_wp2_with fail
      refine (HMOD.out _).mono ?_
      rintro e w3 ⟨rfl, rfl⟩
      go_wp2_with fail
      rw [bad_cat1]
      have HB3 := hid (show Below w.heap.size w (w2.alloc (.cells #[.int .u8 (x)] 5)) from HB2.out.alloc HB2.out.size _)
      generalize w2.alloc _ = w3 at *
      obtain ⟨o, hto⟩ := tok_com l C HOK.out HCB.out.2.2
      have HL := hid (lines_ok (l := 120 :: 10 :: (l ++ 35 :: C :: 10 :: [121])) (out := o) (by rw [linesR_tok _ (by simp; omega), hto]) m w3 ((HB3.out.cell h0).trans HM.out))
      clear hto
      refine HL.out.mono ?_
      rintro e w4 ⟨hb4, p4, c4, rfl, _, _⟩
      have HB4 := hid (HB3.out.trans (hb4.mono HB3.out.size))
      clear hb4 HL
      go_wp2_with fail
      have HB5 := hid (show Below w.heap.size w (w4.alloc (.cells #[.int .i64 0, .int .i64 0] 24)) from HB4.out.alloc HB4.out.size _)
      generalize w4.alloc _ = w5 at *
      have hkl : k ≤ l.length := by omega
      have HF := hid (fun W' (hW : Below w.heap.size w W') => fails_yes (120 :: 10 :: (l.take k ++ C :: l.drop k)) 2 (k + 1) 2 ((k : Int) + 1) m W' ((hW.cell h0).trans HM.out) (by
        rw [linesR_tok _ (by simp; omega), tok_bad _ _ C (fun d hd => HOK.out d (List.mem_of_mem_take hd)) (fun d hd => HOK.out d (List.mem_of_mem_drop hd)) HCB.out.1 HCB.out.2.1 HCB.out.2.2, List.length_take, Nat.min_eq_left hkl]) rfl (by omega))
      clear HCB HOK
      have q1 : ¬ 9223372036854775807 < 2 + k := by omega
      have q2 : ¬ 9223372036854775807 < 2 + k + 1 := by omega
      have q3 : ¬ 9223372036854775807 < 2 + k + 1 + (l.length - k) := by omega
      have hFa : ∀ f, Fence.wide.fn f := fun _ => trivial
      refine (wpIn_wide (n := 9)).1 ?_
      refine wpIn_onlyN ?_
      refine wpIn_region_HJ (fun _ : World => True) 20 (by kernel_rfl) ?_
      simp only [List.size_toArray, List.length_cons, List.length_nil, Nat.reduceAdd]
      refine wpHJ_pure (v := ?ve0) 0 hFa rfl (by kernel_rfl) (fun _ _ _ h => h.elim) (Or.inl ⟨by rfl, ?ye0⟩) (.inr trivial) ?re0
      case ye0 => (intro w' _; go_simp; try rfl)
      simp only [Act.put, List.getElem_toArray, List.getElem_cons_succ, List.getElem_cons_zero, List.setIfInBounds_toArray, List.set_cons_zero, List.set_cons_succ]
      refine wpHJ_pure (v := ?ve1) 1 hFa rfl (by kernel_rfl) (fun _ _ _ h => h.elim) (Or.inl ⟨by rfl, ?ye1⟩) (.inr trivial) ?re1
      case ye1 => (intro w' _; go_simp; try rfl)
      simp only [Act.put, List.getElem_toArray, List.getElem_cons_succ, List.getElem_cons_zero, List.setIfInBounds_toArray, List.set_cons_zero, List.set_cons_succ]
      refine wpHJ_pure (v := ?ve2) 2 hFa rfl (by kernel_rfl) (fun _ _ _ h => h.elim) (Or.inl ⟨by rfl, ?ye2⟩) (.inr trivial) ?re2
      case ye2 => (intro w' _; go_simp; try rfl)
      simp only [Act.put, List.getElem_toArray, List.getElem_cons_succ, List.getElem_cons_zero, List.setIfInBounds_toArray, List.set_cons_zero, List.set_cons_succ]
      refine wpHJ_pure (v := ?ve3) 3 hFa rfl (by kernel_rfl) (fun _ _ _ h => h.elim) (Or.inl ⟨by rfl, ?ye3⟩) (.inr trivial) ?re3
      case ye3 => (intro w' _; go_simp; try rfl)
      simp only [Act.put, List.getElem_toArray, List.getElem_cons_succ, List.getElem_cons_zero, List.setIfInBounds_toArray, List.set_cons_zero, List.set_cons_succ]
      refine wpHJ_pure (v := ?ve4) 4 hFa rfl (by kernel_rfl) (fun _ _ _ h => h.elim) (Or.inl ⟨by rfl, ?ye4⟩) (.inr trivial) ?re4
      case ye4 => (intro w' _; go_simp; try rfl)
      simp only [Act.put, List.getElem_toArray, List.getElem_cons_succ, List.getElem_cons_zero, List.setIfInBounds_toArray, List.set_cons_zero, List.set_cons_succ]
      refine wpHJ_pure (v := ?ve5) 5 hFa rfl (by kernel_rfl) (fun _ _ _ h => h.elim) (Or.inl ⟨by rfl, ?ye5⟩) (.inr trivial) ?re5
      case ye5 => (intro w' _; go_simp; try rfl)
      simp only [Act.put, List.getElem_toArray, List.getElem_cons_succ, List.getElem_cons_zero, List.setIfInBounds_toArray, List.set_cons_zero, List.set_cons_succ]
      refine wpHJ_pure (v := ?ve6) 6 hFa rfl (by kernel_rfl) (fun _ _ _ h => h.elim) (Or.inl ⟨by rfl, ?ye6⟩) (.inr trivial) ?re6
      case ye6 => (intro w' _; go_simp; try rfl)
      simp only [Act.put, List.getElem_toArray, List.getElem_cons_succ, List.getElem_cons_zero, List.setIfInBounds_toArray, List.set_cons_zero, List.set_cons_succ]
      refine wpHJ_pure (v := ?ve7) 7 hFa rfl (by kernel_rfl) (fun _ _ _ h => h.elim) (Or.inl ⟨by rfl, ?ye7⟩) (.inr trivial) ?re7
      case ye7 => (intro w' _; go_simp; try rfl)
      simp only [Act.put, List.getElem_toArray, List.getElem_cons_succ, List.getElem_cons_zero, List.setIfInBounds_toArray, List.set_cons_zero, List.set_cons_succ]
      refine wpHJ_pure (v := ?ve8) 8 hFa rfl (by kernel_rfl) (fun _ _ _ h => h.elim) (Or.inl ⟨by rfl, ?ye8⟩) (.inr trivial) ?re8
      case ye8 => (intro w' _; go_simp; try rfl)
      simp only [Act.put, List.getElem_toArray, List.getElem_cons_succ, List.getElem_cons_zero, List.setIfInBounds_toArray, List.set_cons_zero, List.set_cons_succ]
      refine wpHJ_pure (v := ?ve9) 9 hFa rfl (by kernel_rfl) (fun _ _ _ h => h.elim) (Or.inl ⟨by rfl, ?ye9⟩) (.inr trivial) ?re9
      case ye9 => (intro w' _; go_simp; try rfl)
      simp only [Act.put, List.getElem_toArray, List.getElem_cons_succ, List.getElem_cons_zero, List.setIfInBounds_toArray, List.set_cons_zero, List.set_cons_succ]
      refine wpHJ_pure (v := ?ve10) 10 hFa rfl (by kernel_rfl) (fun _ _ _ h => h.elim) (Or.inl ⟨by rfl, ?ye10⟩) (.inr trivial) ?re10
      case ye10 => (intro w' _; go_simp; try rfl)
      simp only [Act.put, List.getElem_toArray, List.getElem_cons_succ, List.getElem_cons_zero, List.setIfInBounds_toArray, List.set_cons_zero, List.set_cons_succ]
      refine wpHJ_pure (v := ?ve11) 11 hFa rfl (by kernel_rfl) (fun _ _ _ h => h.elim) (Or.inl ⟨by rfl, ?ye11⟩) (.inr trivial) ?re11
      case ye11 => (intro w' _; go_simp; try rfl)
      simp only [Act.put, List.getElem_toArray, List.getElem_cons_succ, List.getElem_cons_zero, List.setIfInBounds_toArray, List.set_cons_zero, List.set_cons_succ]
      refine wpHJ_only 12 (by kernel_rfl) rfl ?_
      intro K hK
      go_simp
      rw [ext_take, ext_drop, bad_cat2, IntWalk.i64_in ((k : Int) + 1) (by omega)]
      have HB6 := hid (show Below w.heap.size w w5.drew from HB5.out.drew)
      (with_reducible refine (callsIn_wide.2 (HF.out w5.drew HB6.out)).mono ?_)
      rintro e w6 ⟨rfl, hb6⟩
      have HB7 := hid (HB6.out.trans (hb6.mono HB6.out.size))
      clear hb6
      refine hK _ _ (.inr (.inr trivial)) ?_
      clear hK K
      refine wpHJ_pure (v := ?ve13) 13 hFa rfl (by kernel_rfl) (fun _ _ _ h => h.elim) (Or.inl ⟨by rfl, ?ye13⟩) (.inr trivial) ?re13
      case ye13 => (intro w' _; go_simp; try rfl)
      simp only [Act.put, List.getElem_toArray, List.getElem_cons_succ, List.getElem_cons_zero, List.setIfInBounds_toArray, List.set_cons_zero, List.set_cons_succ]
      refine wpHJ_pure (v := ?ve14) 14 hFa rfl (by kernel_rfl) (fun _ _ _ h => h.elim) (Or.inl ⟨by simp [Region.wanted, yielded], ?ye14⟩) (.inr trivial) ?re14
      case ye14 => (intro w' _; go_simp; try rfl)
      simp only [Act.put, List.getElem_toArray, List.getElem_cons_succ, List.getElem_cons_zero, List.setIfInBounds_toArray, List.set_cons_zero, List.set_cons_succ]
      refine wpHJ_pure (v := ?ve15) 15 hFa rfl (by kernel_rfl) (fun _ _ _ h => h.elim) (Or.inl ⟨by simp [Region.wanted, yielded], ?ye15⟩) (.inr trivial) ?re15
      case ye15 => (intro w' _; go_simp; try rfl)
      simp only [Act.put, List.getElem_toArray, List.getElem_cons_succ, List.getElem_cons_zero, List.setIfInBounds_toArray, List.set_cons_zero, List.set_cons_succ]
      refine wpHJ_pure (v := ?ve16) 16 hFa rfl (by kernel_rfl) (fun _ _ _ h => h.elim) (Or.inl ⟨by rfl, ?ye16⟩) (.inr trivial) ?re16
      case ye16 => (intro w' _; go_simp; try rfl)
      simp only [Act.put, List.getElem_toArray, List.getElem_cons_succ, List.getElem_cons_zero, List.setIfInBounds_toArray, List.set_cons_zero, List.set_cons_succ]
      refine wpHJ_pure (v := ?ve17) 17 hFa rfl (by kernel_rfl) (fun _ _ _ h => h.elim) (Or.inl ⟨by rfl, ?ye17⟩) (.inr trivial) ?re17
      case ye17 => (intro w' _; go_simp; try rfl)
      simp only [Act.put, List.getElem_toArray, List.getElem_cons_succ, List.getElem_cons_zero, List.setIfInBounds_toArray, List.set_cons_zero, List.set_cons_succ]
      refine wpHJ_only 18 (by kernel_rfl) rfl ?_
      intro K hK
      rw [if_pos (by simp [Region.wanted, yielded])]
      go_simp
      (with_reducible refine (callsIn_wide.2 (awake_any m w6 ((HB7.out.cell h0).trans HM.out))).mono ?_)
      rintro e w7 ⟨rfl, hb7⟩
      have HB8 := hid (HB7.out.trans (hb7.mono HB7.out.size))
      clear hb7
      refine hK _ _ (.inr (.inr trivial)) ?_
      clear hK K
      refine wpHJ_pure (v := ?ve19) 19 hFa rfl (by kernel_rfl) (fun _ _ _ h => h.elim) (Or.inl ⟨by rfl, ?ye19⟩) (.inr trivial) ?re19
      case ye19 => (intro w' _; go_simp; try rfl)
      simp only [Act.put, List.getElem_toArray, List.getElem_cons_succ, List.getElem_cons_zero, List.setIfInBounds_toArray, List.set_cons_zero, List.set_cons_succ]
      refine wpHJ_only 20 (by kernel_rfl) rfl ?_
      intro K hK
      go_simp
      refine hK _ _ (.inl rfl) ?_
      clear hK K
      refine wpHJ_done (by kernel_rfl) ?_ _
      simp only [onlyN, Exit.then]
      clear hFa
      go_wp2
      go_ret
      exact ⟨rfl, HB8.out⟩


end Go.Proofs.Ytgldgkaigomceaa
