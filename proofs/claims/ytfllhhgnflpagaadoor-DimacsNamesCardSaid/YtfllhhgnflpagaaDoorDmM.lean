/-
  The reference's Format.
-/
import Derived.Test.YtfllhhgnflpagaaDoorDmG
import Derived.Test.YtfllhhgnflpagaaDoorDmRc
import Derived.Lib.ConvBytes
namespace Go.Proofs.YtfllhhgnflpagaaDoor
set_option linter.unusedSimpArgs false
set_option linter.unusedVariables false
open Go.RowKit Go.Shelf
attribute [local go_sem] Oper.semAt_some

theorem size_mkS (l : Bs) : (⟨l.toArray⟩ : ByteArray).size = l.length := by simp [ByteArray.size]
theorem itoaF_any (n : Int) (w : World) (h0 : -9223372036854775808 ≤ n) (h1 : n ≤ 9223372036854775807) (hp : Lib.TabIs Tryd.prog w "internal/strconv.uint64pow10" .u64 Lib.pow10Tab) :
    Calls Tryd.prog 24 #[.int .i64 n] w fun e w' => e = .returned (.string ⟨(Lib.itoa n).toArray⟩) ∧ Below w.heap.size w w' :=
  (Tryd.strconv_Itoa n h0 h1 w hp).mono fun e w' ⟨he, k, os, hw⟩ => ⟨he, by rw [hw]; exact Lib.below_grow _ _ (Nat.le_refl _) _ _⟩
theorem FS.ofBytes {w2 W : World} (hb : Below w2.heap.size w2 W) (out : Bs) (hl : out.length ≤ 4096) : FS w2 (Lib.bytesWorld W 5 ⟨out.toArray⟩) (.slice (some ⟨W.heap.size, 0, none⟩) out.length (grownCap W out.length 0 5)) out := by
  have hsz : (⟨out.toArray⟩ : ByteArray).size = out.length := size_mkS out
  have h1 := grownCap_ge W out.length 0 5
  have h2 := grownCap_le_maxLen W out.length 0 5 (by unfold maxLen; omega)
  have hcs : Lib.bytesCells W 5 ⟨out.toArray⟩ = (Lib.byteCells out ++ List.replicate (grownCap W out.length 0 5 - out.length) (Value.int .u8 0)).toArray := by
    unfold Lib.bytesCells Lib.byteCells
    rw [hsz]
    apply Array.ext'; simp
  have hlen : (Lib.byteCells out ++ List.replicate (grownCap W out.length 0 5 - out.length) (Value.int .u8 0)).length = grownCap W out.length 0 5 := by
    rw [List.length_append, byteCells_len, List.length_replicate]; omega
  have h := RowM.new (B := w2.heap.size) (w := W) (w' := Lib.bytesWorld W 5 ⟨out.toArray⟩) (xs := Lib.byteCells out) (rest := List.replicate (grownCap W out.length 0 5 - out.length) (Value.int .u8 0)) (e := 5) (fz := (grownCap W out.length 0 5, grownCap W out.length 0 5 + 1)) hb.size (by rw [Lib.bytesWorld_at_new, hcs, List.size_toArray, hlen]) (.inr (by rw [hlen]; exact Nat.le_refl _)) (by rw [hlen]; exact h2)
  rw [hlen, byteCells_len] at h
  exact ⟨h, ⟨hb.os, hb.tape, hb.output, Nat.le_trans hb.size (by simp [Lib.bytesWorld, World.freeze, World.alloc, World.drew, -World.alloc_eq, -World.drew_eq]), fun k hk => (Lib.bytesWorld_at_old _ _ _ _ (Nat.lt_of_lt_of_le hk hb.size)).trans (hb.block k hk)⟩⟩
theorem cat_head (n : Int) (L : Nat) : ((⟨#[112, 32, 99, 110, 102, 32]⟩ : ByteArray) ++ ⟨(Lib.itoa n).toArray⟩ ++ ⟨#[32]⟩ ++ ⟨(Lib.itoa (L : Int)).toArray⟩ ++ ⟨#[10]⟩) = ⟨(headT n L).toArray⟩ := by
  unfold headT
  simp only [ByteArray.mk_append_mk]
  first | done | simp
theorem conv_head (n : Int) (L : Nat) (W : World) : (convert 9 37 (.string ((⟨#[112, 32, 99, 110, 102, 32]⟩ : ByteArray) ++ ⟨(Lib.itoa n).toArray⟩ ++ ⟨#[32]⟩ ++ ⟨(Lib.itoa (L : Int)).toArray⟩ ++ ⟨#[10]⟩))).run Tryd.prog W = .ok (.slice (some ⟨W.heap.size, 0, none⟩) (headT n L).length (grownCap W (headT n L).length 0 5)) (Lib.bytesWorld W 5 ⟨(headT n L).toArray⟩) := by
  have := Lib.run_convert_string_bytes (P := Tryd.prog) W 9 37 5 ⟨(headT n L).toArray⟩ Tryd.underlying9 Tryd.underlying37 Tryd.underlying5
  rw [size_mkS] at this
  rw [cat_head]; exact this
theorem FS.below {w1 W W' : World} {v : Value} {out : Bs} (h : FS w1 W v out) (hb : Below W.heap.size W W') : FS w1 W' v out := ⟨h.1.below hb, h.2.trans (hb.mono h.2.size)⟩
theorem srcs2 (W : World) : Src Tryd.prog 1 9 (.string ⟨#[48, 10]⟩) 2 (Lib.byteCells [48, 10]) W := src_str Tryd.underlying9 [48, 10]
set_option maxRecDepth 100000 in
set_option maxHeartbeats 4000000 in
theorem rformat_any (n : Int) (cls : List (List Int)) (v : Value) (w : World) (hv : LL (· < w.heap.size) w v cls) (hb : ∀ c ∈ cls, ∀ a ∈ c, -9223372036854775808 ≤ a ∧ a ≤ 9223372036854775807) (hn0 : -9223372036854775808 ≤ n) (hn1 : n ≤ 9223372036854775807) (hE : Env w) :
    Calls Tryd.prog 14 #[.agg #[.int .i64 n, v]] w fun e w' => e = .returned (.tuple #[.string ⟨(formatM n cls).1.toArray⟩, .int .i64 (formatM n cls).2]) ∧ Below w.heap.size w w' := by
  obtain ⟨w1, hw1⟩ : ∃ w1, w.alloc (.cells #[.int .i64 n, v] 24) = w1 := ⟨_, rfl⟩
  have hb1 : Below w.heap.size w w1 := by rw [← hw1]; exact (Below.refl _ _).alloc (Nat.le_refl _) _
  have hs1 : w1.heap.size = w.heap.size + 1 := by rw [← hw1]; simp
  have hc := rccheck_any n cls v w1 (hv.keep fun k hk => ⟨Nat.lt_of_lt_of_le hk hb1.size, hb1.block k hk⟩) hb hn0 hn1
  obtain ⟨e0, he0⟩ : ∃ e0, checkM n cls = e0 := ⟨_, rfl⟩
  rw [he0] at hc
  obtain ⟨vs, ⟨p, cap, rfl, h1, h2, h3, hr⟩, hl, hx⟩ := hv
  obtain ⟨L, hL⟩ : ∃ L, vs.length = L := ⟨_, rfl⟩
  have hLc : cls.length = L := by omega
  have q0 : w1.cell? ⟨w.heap.size, 0, none⟩ = some (.int .i64 n) := by rw [← hw1, cell_al, if_pos rfl]; rfl
  have q1 : w1.cell? ⟨w.heap.size, 1, none⟩ = some (.slice p vs.length cap) := by rw [← hw1, cell_al, if_pos rfl]; rfl
  have ht1 : Lib.TabIs Tryd.prog w1 "internal/strconv.uint64pow10" .u64 Lib.pow10Tab := (hE.below hb1).pow
  rw [hL] at q1 hc h1 h3 hw1 ⊢
  have HR := hid hr; have HX := hid hx; have HL := hid hLc; have HLL := hid hL; have HB1 := hid hb1; have HS1 := hid hs1; have HW1 := hid hw1; have HCALL := hid hc; have HT1 := hid ht1; have HE0 := hid he0; have HNN := hid (And.intro hn0 hn1); have HBB := hid hb; have HLT := hid (And.intro h1 (And.intro h2 h3))
  clear hr hx hl hL hLc hb1 hs1 hw1 hc ht1 hE he0 hn0 hn1 hb h1 h2 h3
  by_cases hz : e0 = 0
  · have HOK := hid (checkM_ok (HE0.out.trans hz))
    have ITOA := hid (And.intro (itoa_len n (by have := HNN.out; omega) (by have := HNN.out; omega)) (itoa_len (L : Int) (by omega) (by have := HOK.out.2.2.1; have := HL.out; omega)))
    rw [HL.out] at HOK
    subst hz
    go_enter Tryd.func14, Tryd.ntmps14
    go_wp2_with (first
      | (rw [HW1.out])
      | (go_at_call 23; with_reducible refine HCALL.out.mono ?_; rintro e w2 ⟨rfl, hb2⟩; have r0 := (hb2.cell (p := ⟨w.heap.size, 0, none⟩) (by show w.heap.size < _; have := HS1.out; omega)).trans q0; have r1 := (hb2.cell (p := ⟨w.heap.size, 1, none⟩) (by show w.heap.size < _; have := HS1.out; omega)).trans q1; have HB2 := hid hb2; have HT2 := hid (tab_below hb2 (Nat.le_refl _) HT1.out); have hsz2 : w.heap.size < w2.heap.size := (by have := HS1.out; have := hb2.size; omega); have HSZ2 := hid hsz2; clear hb2 q0 q1 hsz2))
    go_wp2_with fail
    have hFa : ∀ f, Fence.wide.fn f := fun _ => trivial
    refine (wpIn_wide (n := 9)).1 ?_
    refine wpIn_onlyN ?_
    refine wpIn_region_HJ (fun W' : World => W'.cell? ⟨w.heap.size, 0, none⟩ = some (.int .i64 n) ∧ W'.cell? ⟨w.heap.size, 1, none⟩ = some (.slice p L cap)) 12 (by kernel_rfl) ?_
    simp only [List.size_toArray, List.length_cons, List.length_nil, Nat.reduceAdd]
    have HBu2 := hid (show Below w2.heap.size w2 w2.drew from (Below.refl _ _).drew)
    have HPWu2 := hid (tab_below HBu2.out (Nat.le_refl _) HT2.out)
    have hSu2 : (fun W' : World => W'.cell? ⟨w.heap.size, 0, none⟩ = some (.int .i64 n) ∧ W'.cell? ⟨w.heap.size, 1, none⟩ = some (.slice p L cap)) w2.drew := ⟨r0, r1⟩
    generalize World.drew w2 = u2 at *
    have y0 : ¬ 9223372036854775807 < 6 + (Lib.itoa n).length := by have := ITOA.out.1; omega
    have y1 : ¬ 9223372036854775807 < 6 + (Lib.itoa n).length + 1 := by have := ITOA.out.1; omega
    have y2 : ¬ 9223372036854775807 < 6 + (Lib.itoa n).length + 1 + (Lib.itoa (L : Int)).length := by have := ITOA.out.1; have := ITOA.out.2; omega
    have y3 : ¬ 9223372036854775807 < 6 + (Lib.itoa n).length + 1 + (Lib.itoa (L : Int)).length + 1 := by have := ITOA.out.1; have := ITOA.out.2; omega
    have z1 := size_mkS (Lib.itoa n)
    have z2 := size_mkS (Lib.itoa (L : Int))
    refine wpHJ_pure (v := ?vg0) 0 hFa rfl (by kernel_rfl) (fun _ _ _ h => h.elim) (Or.inl ⟨by rfl, ?yg0⟩) (.inr hSu2) ?rg0
    case yg0 => (intro w' _; go_simp; try rfl)
    simp only [Act.put, List.getElem_toArray, List.getElem_cons_succ, List.getElem_cons_zero, List.setIfInBounds_toArray, List.set_cons_zero, List.set_cons_succ]
    refine wpHJ_take (v := ?vg1) 1 hFa rfl (by kernel_rfl) (fun _ _ _ h => h.elim) (Or.inl ⟨by rfl, ?yg1⟩) hSu2 ?rg1
    case yg1 => (intro w' hS'; obtain ⟨hp0, hp1⟩ := hS'; go_simp; try rfl)
    simp only [Act.put, List.getElem_toArray, List.getElem_cons_succ, List.getElem_cons_zero, List.setIfInBounds_toArray, List.set_cons_zero, List.set_cons_succ]
    refine wpHJ_pure (v := ?vg5) 5 hFa rfl (by kernel_rfl) (fun _ _ _ h => h.elim) (Or.inl ⟨by rfl, ?yg5⟩) (.inr hSu2) ?rg5
    case yg5 => (intro w' _; go_simp; try rfl)
    simp only [Act.put, List.getElem_toArray, List.getElem_cons_succ, List.getElem_cons_zero, List.setIfInBounds_toArray, List.set_cons_zero, List.set_cons_succ]
    refine wpHJ_take (v := ?vg6) 6 hFa rfl (by kernel_rfl) (fun _ _ _ h => h.elim) (Or.inl ⟨by rfl, ?yg6⟩) hSu2 ?rg6
    case yg6 => (intro w' hS'; obtain ⟨hp0, hp1⟩ := hS'; go_simp; try rfl)
    simp only [Act.put, List.getElem_toArray, List.getElem_cons_succ, List.getElem_cons_zero, List.setIfInBounds_toArray, List.set_cons_zero, List.set_cons_succ]
    refine wpHJ_pure (v := ?vg7) 7 hFa rfl (by kernel_rfl) (fun _ _ _ h => h.elim) (Or.inl ⟨by rfl, ?yg7⟩) (.inr hSu2) ?rg7
    case yg7 => (intro w' _; go_simp; try rfl)
    simp only [Act.put, List.getElem_toArray, List.getElem_cons_succ, List.getElem_cons_zero, List.setIfInBounds_toArray, List.set_cons_zero, List.set_cons_succ]
    refine wpHJ_only 2 (by kernel_rfl) rfl ?_
    intro K hK
    go_simp
    (with_reducible refine (callsIn_wide.2 (itoaF_any n u2 (by have := HNN.out; omega) (by have := HNN.out; omega) HPWu2.out)).mono ?_)
    rintro e u22 ⟨rfl, hbu22⟩
    have HBu22 := hid (HBu2.out.trans (hbu22.mono HBu2.out.size))
    have hSu22 : (fun W' : World => W'.cell? ⟨w.heap.size, 0, none⟩ = some (.int .i64 n) ∧ W'.cell? ⟨w.heap.size, 1, none⟩ = some (.slice p L cap)) u22 := ⟨(hbu22.cell (p := ⟨w.heap.size, 0, none⟩) (Nat.lt_of_lt_of_le HSZ2.out HBu2.out.size)).trans hSu2.1, (hbu22.cell (p := ⟨w.heap.size, 1, none⟩) (Nat.lt_of_lt_of_le HSZ2.out HBu2.out.size)).trans hSu2.2⟩
    have HPWu22 := hid (tab_below hbu22 (Nat.le_refl _) HPWu2.out)
    clear hbu22
    refine hK _ _ (.inr (.inr hSu22)) ?_
    clear hK K
    refine wpHJ_pure (v := ?vg3) 3 hFa rfl (by kernel_rfl) (fun _ _ _ h => h.elim) (Or.inl ⟨by rfl, ?yg3⟩) (.inr hSu22) ?rg3
    case yg3 => (intro w' _; go_simp; try rfl)
    simp only [Act.put, List.getElem_toArray, List.getElem_cons_succ, List.getElem_cons_zero, List.setIfInBounds_toArray, List.set_cons_zero, List.set_cons_succ]
    refine wpHJ_pure (v := ?vg4) 4 hFa rfl (by kernel_rfl) (fun _ _ _ h => h.elim) (Or.inl ⟨by rfl, ?yg4⟩) (.inr hSu22) ?rg4
    case yg4 => (intro w' _; go_simp; try rfl)
    simp only [Act.put, List.getElem_toArray, List.getElem_cons_succ, List.getElem_cons_zero, List.setIfInBounds_toArray, List.set_cons_zero, List.set_cons_succ]
    refine wpHJ_only 8 (by kernel_rfl) rfl ?_
    intro K hK
    go_simp
    (with_reducible refine (callsIn_wide.2 (itoaF_any (L : Int) u22 (by omega) (by have := HOK.out.2.2.1; omega) HPWu22.out)).mono ?_)
    rintro e u28 ⟨rfl, hbu28⟩
    have HBu28 := hid (HBu22.out.trans (hbu28.mono HBu22.out.size))
    have hSu28 : (fun W' : World => W'.cell? ⟨w.heap.size, 0, none⟩ = some (.int .i64 n) ∧ W'.cell? ⟨w.heap.size, 1, none⟩ = some (.slice p L cap)) u28 := ⟨(hbu28.cell (p := ⟨w.heap.size, 0, none⟩) (Nat.lt_of_lt_of_le HSZ2.out HBu22.out.size)).trans hSu22.1, (hbu28.cell (p := ⟨w.heap.size, 1, none⟩) (Nat.lt_of_lt_of_le HSZ2.out HBu22.out.size)).trans hSu22.2⟩
    have HPWu28 := hid (tab_below hbu28 (Nat.le_refl _) HPWu22.out)
    clear hbu28
    refine hK _ _ (.inr (.inr hSu28)) ?_
    clear hK K
    refine wpHJ_pure (v := ?vg9) 9 hFa rfl (by kernel_rfl) (fun _ _ _ h => h.elim) (Or.inl ⟨by rfl, ?yg9⟩) (.inr hSu28) ?rg9
    case yg9 => (intro w' _; go_simp; try rfl)
    simp only [Act.put, List.getElem_toArray, List.getElem_cons_succ, List.getElem_cons_zero, List.setIfInBounds_toArray, List.set_cons_zero, List.set_cons_succ]
    refine wpHJ_pure (v := ?vg10) 10 hFa rfl (by kernel_rfl) (fun _ _ _ h => h.elim) (Or.inl ⟨by rfl, ?yg10⟩) (.inr hSu28) ?rg10
    case yg10 => (intro w' _; go_simp; try rfl)
    simp only [Act.put, List.getElem_toArray, List.getElem_cons_succ, List.getElem_cons_zero, List.setIfInBounds_toArray, List.set_cons_zero, List.set_cons_succ]
    refine wpHJ_only 11 (by kernel_rfl) rfl ?_
    intro K hK
    obtain ⟨w5, hw5⟩ : ∃ x, Lib.bytesWorld u28 5 ⟨(headT n L).toArray⟩ = x := ⟨_, rfl⟩
    have hcv : (convert 9 37 (.string ((⟨#[112, 32, 99, 110, 102, 32]⟩ : ByteArray) ++ ⟨(Lib.itoa n).toArray⟩ ++ ⟨#[32]⟩ ++ ⟨(Lib.itoa (L : Int)).toArray⟩ ++ ⟨#[10]⟩))).run Tryd.prog u28 = .ok (.slice (some ⟨u28.heap.size, 0, none⟩) (headT n L).length (grownCap u28 (headT n L).length 0 5)) w5 := by rw [← hw5]; exact conv_head n L u28
    have HF5 := hid (show FS w2 w5 (.slice (some ⟨u28.heap.size, 0, none⟩) (headT n L).length (grownCap u28 (headT n L).length 0 5)) (headT n L) from by rw [← hw5]; exact FS.ofBytes HBu28.out _ (by have h1 := ITOA.out.1; have h2 := ITOA.out.2; unfold headT; simp only [List.length_append, List.length_cons, List.length_nil]; omega))
    have hSw5 : (fun W' : World => W'.cell? ⟨w.heap.size, 0, none⟩ = some (.int .i64 n) ∧ W'.cell? ⟨w.heap.size, 1, none⟩ = some (.slice p L cap)) w5 := ⟨(HF5.out.bel.cell (p := ⟨w.heap.size, 0, none⟩) HSZ2.out).trans r0, (HF5.out.bel.cell (p := ⟨w.heap.size, 1, none⟩) HSZ2.out).trans r1⟩
    clear hw5
    go_simp
    refine hK _ _ (.inr (.inr hSw5)) ?_
    clear hK K
    refine wpHJ_only 12 (by kernel_rfl) rfl ?_
    intro K hK
    go_simp
    refine hK _ _ (.inl rfl) ?_
    clear hK K
    refine wpHJ_done (by kernel_rfl) ?_ _
    simp only [onlyN, Exit.then]
    clear hFa
    have hLb : L ≤ 1048576 := HOK.out.2.2.1
    have HZL := hid (show (headT n L).length ≤ 65536 from by have h1 := ITOA.out.1; have h2 := ITOA.out.2; unfold headT; simp only [List.length_append, List.length_cons, List.length_nil]; omega)
    clear hSw5 hSu22 hSu28 hSu2 HBu2 HPWu2 HBu22 HPWu22 HBu28 HPWu28 y0 y1 y2 y3 z1 z2
    obtain ⟨vz, hvz⟩ : ∃ x, (Value.slice (some ⟨u28.heap.size, 0, none⟩) (headT n L).length (grownCap u28 (headT n L).length 0 5)) = x := ⟨_, rfl⟩
    rw [hvz] at HF5 ⊢
    clear hvz hcv
    go_wp2_with fail
    go_loopw [5, 6] (fun v i wr => ∃ (k : Nat) (out : Bs), k ≤ L ∧ i = .int .i64 k ∧ FS w2 wr v out ∧ out.length ≤ 160000 ∧ out = headT n L ++ (cls.take k).flatMap clauseT) (fun _ i _ => L - (intOf i).toNat)
    case atStart => exact ⟨0, headT n L, by omega, rfl, HF5.out, (by have := HZL.out; omega), by simp⟩
    case round =>
      obtain ⟨k, out, hk, rfl, hfs, hol, hout⟩ := hrel
      obtain ⟨wo, rfl⟩ : ∃ wo : World, wo = wr := ⟨_, rfl⟩
      obtain ⟨pv, kv, hv⟩ := hfs.op
      obtain ⟨N, hN⟩ : ∃ N, out.length = N := ⟨_, rfl⟩
      rw [hN] at hv
      subst hv
      have rk1 := (hfs.bel.cell (p := ⟨w.heap.size, 1, none⟩) HSZ2.out).trans r1
      have HFS := hid hfs; have HOL := hid hol; have HOUT := hid hout; have HN := hid hN
      clear hfs hol hout hN
      by_cases hlt : k < L
      · have hkd : decide ((k : Int) < (L : Int)) = true := by simp; omega
        by_cases hbig : 65536 < N
        · have hbd : decide (65536 < (N : Int)) = true := by simp; omega
          have hbe : decide ((N : Int) ≤ 65536) = false := by simp; omega
          have HFM := hid (formatM_long (n := n) (cls := cls) HE0.out k (by rw [HL.out, ← HOUT.out, HN.out]; exact hbig))
          go_wp2_with fail
          go_ret2
          exact ⟨by rw [HFM.out]; rfl, HB1.out.trans ((HB2.out.trans (HFS.out.bel.mono HB2.out.size)).mono (by have := HS1.out; omega))⟩
        have hbe : decide ((N : Int) ≤ 65536) = true := by simp; omega
        have hkc : k < cls.length := by have := HL.out; omega
        have hkv : k < vs.length := by have := HLL.out; omega
        obtain ⟨bk, off, rfl, hR1, hcell⟩ := HR.out.at k hkv
        obtain ⟨m, hm⟩ : ∃ m, cls[k].length = m := ⟨_, rfl⟩
        obtain ⟨pk, ck, hvk, hk1, hk2, hk3, hrk⟩ := (HX.out k hkc hkv).op
        have hrow := hrk.keep (R' := (· < w.heap.size)) (fun i hi => ⟨hi, rfl⟩)
        obtain ⟨hml, hma⟩ := litM_ok2 (litsM_ok2 HOK.out.2.2.2 cls[k] (List.getElem_mem hkc))
        have hbb := HBB.out _ (List.getElem_mem hkc)
        have htk : cls.take (k + 1) = cls.take k ++ [cls[k]] := by rw [List.take_succ_eq_append_getElem hkc]
        rw [hm] at hvk hml
        have hckw := hcell k hkv
        rw [hvk] at hckw
        have HROW := hid hrow; have HML := hid hml; have HBBK := hid hbb; have HTK := hid htk; have HM := hid hm; have HCK := hid (And.intro hR1 hckw)
        obtain ⟨c, hc⟩ : ∃ c, cls[k] = c := ⟨_, rfl⟩
        rw [hc] at HROW HBBK HTK HM
        clear hcell hR1 hrk hrow hma hbb htk hm hvk hk1 hk2 hk3 hkc hkv hc hckw
        have hmb : m ≤ 4096 := HML.out
        have HNB := hid hbig
        clear hml hbig
        go_wp2_with fail
        clear rk1
        go_loopw [5, 7] (fun v j wr' => ∃ (q : Nat) (o2 : Bs), q ≤ m ∧ j = .int .i64 q ∧ FS w2 wr' v o2 ∧ o2.length ≤ 65536 + 22 * q ∧ o2 = out ++ (c.take q).flatMap (fun a => Lib.itoa a ++ [32])) (fun _ j _ => m - (intOf j).toNat)
        case atStart => exact ⟨0, out, by omega, rfl, HFS.out, by have := HN.out; have := HNB.out; omega, by simp⟩
        case round =>
          obtain ⟨q, o2, hq, rfl, hf2, ho2, he2⟩ := hrel
          obtain ⟨wi, rfl⟩ : ∃ wi : World, wi = wr := ⟨_, rfl⟩
          have ri1 := (hf2.bel.cell (p := ⟨w.heap.size, 1, none⟩) HSZ2.out).trans r1
          have hbI : Below w.heap.size w wi := HB1.out.trans ((HB2.out.trans (hf2.bel.mono HB2.out.size)).mono (by have := HS1.out; omega))
          have hcki := (hbI.cell (p := ⟨bk, off + k, none⟩) HCK.out.1).trans HCK.out.2
          have HF2 := hid hf2; have HO2 := hid ho2; have HE2 := hid he2
          clear hf2 ho2 he2
          by_cases hqm : q < m
          · have hqd : decide ((q : Int) < (m : Int)) = true := by simp; omega
            have hqc : q < c.length := by have := HM.out; omega
            obtain ⟨bq, oq, rfl, hRq, hcq⟩ := HROW.out.atI q hqc
            have hcw := (hbI.cell (p := ⟨bq, oq + q, none⟩) hRq).trans (hcq q hqc)
            have htq : c.take (q + 1) = c.take q ++ [c[q]] := by rw [List.take_succ_eq_append_getElem hqc]
            have hbq := HBBK.out _ (List.getElem_mem hqc)
            obtain ⟨x, hx⟩ : ∃ x, c[q] = x := ⟨_, rfl⟩
            rw [hx] at hcw htq hbq
            have HBQ := hid hbq; have HTQ := hid htq; have HIL := hid (itoa_len x hbq.1 hbq.2); have HML2 := hid HML.out
            have HTI := hid (tab_below HF2.out.bel (Nat.le_refl _) HT2.out)
            clear hbq htq hx hcq hbI hRq hqc
            go_wp2_with (first
              | (go_at_call 24; refine (itoaF_any x wi HBQ.out.1 HBQ.out.2 HTI.out).mono ?_; rintro e w4 ⟨rfl, hb4⟩; have HF4 := hid (HF2.out.below hb4); clear hb4)
              | (at_builtin; refine wpList_appM rfl (.tmp 47) (.tmp 56) 37 9 rfl w2.heap.size 5 (.int .u8 0) Tryd.underlying37 info_u8 rfl _ o2.length (Lib.byteCells o2) rfl HF4.out.row HF4.out.bel.size (.string ⟨(Lib.itoa x).toArray⟩) (Lib.itoa x).length (Lib.byteCells (Lib.itoa x)) rfl (src_str Tryd.underlying9 _) (by have := HO2.out; have := HML2.out; have := HIL.out; omega) ?_; intro v5 w5 ho5 hg5 hv5; have HF5 := hid (HF4.out.grown (ys := Lib.itoa x) rfl rfl ho5 hg5); clear ho5 hg5 hv5)
              | (at_builtin; refine wpList_appM rfl (.tmp 57) (.tmp 58) 37 37 rfl w2.heap.size 5 (.int .u8 0) Tryd.underlying37 info_u8 rfl v5 (o2 ++ Lib.itoa x).length (Lib.byteCells (o2 ++ Lib.itoa x)) rfl (HF5.out.alloc _).row (HF5.out.alloc _).bel.size (.slice (some ⟨w5.heap.size, 0, none⟩) 1 1) 1 (Lib.byteCells [32]) rfl (Lt.new w5 32).src (by have := HO2.out; have := HML2.out; have := HIL.out; rw [List.length_append]; omega) ?_; intro v6 w6 ho6 hg6 hv6; have HF6 := hid ((HF5.out.alloc _).grown (ys := [32]) rfl rfl ho6 hg6); clear ho6 hg6 hv6))
            go_roundw
            case rel =>
              refine ⟨q + 1, _, by omega, by go_num, HF6.out, ?_, ?_⟩
              · have := HO2.out; have := HIL.out
                simp only [List.length_append, List.length_cons, List.length_nil]; omega
              · rw [HTQ.out, HE2.out, List.flatMap_append]
                simp only [List.flatMap_cons, List.flatMap_nil, List.append_nil, List.append_assoc]
            case measure => (simp [intOf] <;> omega)
          · obtain rfl : q = m := by omega
            have hcl : o2 ++ [48, 10] = out ++ clauseT c := by
              rw [HE2.out, List.take_of_length_le (Nat.le_of_eq HM.out)]
              unfold clauseT
              rw [List.append_assoc]
            have htx : o2 ++ [48, 10] = headT n L ++ (cls.take (k + 1)).flatMap clauseT := by
              rw [hcl, HTK.out, HOUT.out, List.flatMap_append]
              simp only [List.flatMap_cons, List.flatMap_nil, List.append_nil, List.append_assoc]
            have HTX := hid htx
            clear hcl htx
            go_wp2_with (at_builtin; refine wpList_appM rfl (.tmp 60) _ 37 9 rfl w2.heap.size 5 (.int .u8 0) Tryd.underlying37 info_u8 rfl _ o2.length (Lib.byteCells o2) rfl HF2.out.row HF2.out.bel.size (.string ⟨#[48, 10]⟩) 2 (Lib.byteCells [48, 10]) rfl (srcs2 wi) (by have := HO2.out; have := HML.out; omega) ?_; intro v7 w7 ho7 hg7 hv7; have HF7 := hid (HF2.out.grown (ys := [48, 10]) rfl rfl ho7 hg7); clear ho7 hg7 hv7)
            go_roundw
            case rel => exact ⟨k + 1, o2 ++ [48, 10], by omega, by go_num, HF7.out, (by have := HO2.out; have := HML.out; simp only [List.length_append, List.length_cons, List.length_nil]; omega), HTX.out⟩
            case measure => (simp [intOf] <;> omega)
      · obtain rfl : k = L := by omega
        by_cases hbig : 65536 < N
        · have hbd : decide (65536 < (N : Int)) = true := by simp; omega
          have HFM := hid (formatM_long (n := n) (cls := cls) HE0.out k (by rw [HL.out, ← HOUT.out, HN.out]; exact hbig))
          go_wp2_with fail
          go_ret2
          exact ⟨by rw [HFM.out]; rfl, HB1.out.trans ((HB2.out.trans (HFS.out.bel.mono HB2.out.size)).mono (by have := HS1.out; omega))⟩
        · have hbd : decide (65536 < (N : Int)) = false := by simp; omega
          have htx : (convert 37 9 (.slice pv N kv)).run Tryd.prog wo = .ok (.string ⟨out.toArray⟩) wo := by
            have h := HFS.out.row
            rw [← HN.out] at h ⊢
            exact h.text Tryd.underlying37 Tryd.underlying5 Tryd.underlying9
          have HFM := hid (formatM_ok (n := n) (cls := cls) HE0.out (out := out) (by rw [HOUT.out, List.take_of_length_le (Nat.le_of_eq HL.out)]; unfold textM; rw [HL.out]) (by rw [HN.out]; omega))
          go_wp2_with fail
          go_ret2
          exact ⟨by rw [HFM.out]; rfl, HB1.out.trans ((HB2.out.trans (HFS.out.bel.mono HB2.out.size)).mono (by have := HS1.out; omega))⟩
  · have hzd : (e0 != 0) = true := by simp [hz]
    have HF := hid (show formatM n cls = ([], e0) from by unfold formatM; rw [HE0.out, if_pos hz])
    clear hz
    go_enter Tryd.func14, Tryd.ntmps14
    go_wp2_with (first | (rw [HW1.out]) | (go_at_call 23; with_reducible refine HCALL.out.mono ?_; rintro e w2 ⟨rfl, hb2⟩; have HB2 := hid hb2; clear hb2))
    go_ret2
    exact ⟨by rw [HF.out]; rfl, HB1.out.trans (HB2.out.mono HB1.out.size)⟩

end Go.Proofs.YtfllhhgnflpagaaDoor
