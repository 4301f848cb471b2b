/-
  The walk of TokenExamples.
-/
import Derived.Test.YtgldgkaigomceaaTkB
import Derived.Test.YtgldgkaigomceaaTkJ
import Derived.Test.YtgldgkaigomceaaTkPX
namespace Go.Proofs.Ytgldgkaigomceaa
set_option linter.unusedSimpArgs false
set_option linter.unusedVariables false
open Go.RowKit Go.Shelf
attribute [local go_sem] Oper.semAt_some

theorem make_runK {P : Program} {t e : TypeId} {z : Value} {bytes : Nat} (ht : P.underlying t = some (.slice e))
    (hinfo : (P.info? e).map (fun i => (i.zero, i.size, i.bytes)) = some (some z, 1, bytes)) (hzs : z.cells = #[z]) (n : Nat) (hb : bytes * n ≤ 281474976710656) (hn : n ≤ 281474976710656) (w : World) :
    (Instr.makeSlice t (.int .i64 (n : Int)) (.int .i64 (n : Int))).run P w = .ok (.slice (some ⟨w.heap.size, 0, none⟩) n n) (w.alloc (.cells (Array.replicate n z) e)) := by
  obtain ⟨i, hi, hz, hs1, hby⟩ := info_parts hinfo
  have h := run_make (P := P) w t e i z ht hi hz .i64 .i64 (n : Int) (n : Int) (by omega) (Int.le_refl _) (by rw [hby]; omega) (by omega)
  rw [h]
  simp only [Int.toNat_natCast, hs1, Nat.mul_one, hzs]
  have e : madeCells #[z] n = Array.replicate n z := by
    apply Array.ext
    · simp [madeCells]
    · intro i h1 h2
      simp [madeCells, Nat.mod_one]
  rw [e]
/-- The array that is filled: k bytes so far. -/
def PatRow (B N k : Nat) (W : World) : Prop := ∃ cur : Array Value, W.heap[B]? = some (.cells cur 5 (0, 0)) ∧ cur.size = N ∧ ∀ j, j < k → cur[j]? = some (.int .u8 (patN j : Int))
theorem PatRow.keep {B N k : Nat} {W W' : World} (h : PatRow B N k W) (e : W'.heap[B]? = W.heap[B]?) : PatRow B N k W' := let ⟨cur, h1, h2, h3⟩ := h; ⟨cur, e.trans h1, h2, h3⟩
theorem PatRow.size {B N k : Nat} {W : World} (h : PatRow B N k W) : B < W.heap.size := let ⟨cur, h1, _, _⟩ := h; (Array.getElem?_eq_some_iff.1 h1).1
theorem PatRow.over {B N k : Nat} {W : World} (h : PatRow B N k W) (v : Value) : PatRow B N k (W.setCell ⟨B, k, none⟩ v) := by
  obtain ⟨cur, h1, h2, h3⟩ := h
  exact ⟨_, heap_setCell_at k v h1, by simpa using h2, fun j hj => by rw [Array.getElem?_setIfInBounds_ne (by omega)]; exact h3 j hj⟩
theorem PatRow.put {B N k : Nat} {W : World} (h : PatRow B N k W) (hk : k < N) : PatRow B N (k + 1) (W.setCell ⟨B, k, none⟩ (.int .u8 (patN k : Int))) := by
  obtain ⟨cur, h1, h2, h3⟩ := h
  refine ⟨_, heap_setCell_at k _ h1, by simpa using h2, fun j hj => ?_⟩
  by_cases e : j = k
  · subst e; simp [h2, hk]
  · rw [Array.getElem?_setIfInBounds_ne (by omega)]; exact h3 j (by omega)
theorem PatRow.cell {B N k : Nat} {W : World} (h : PatRow B N k W) (j : Nat) (hj : j < N) : ∃ u, W.cell? ⟨B, j, none⟩ = some u ∧ W.frozen? ⟨B, j, none⟩ = false := by
  obtain ⟨cur, h1, h2, h3⟩ := h
  refine ⟨cur[j], ?_, ?_⟩
  · rw [cell_of_row W B j cur _ _ h1]; simp [h2, hj]
  · unfold World.frozen?; rw [h1]; simp
theorem PatRow.conv {B N k n : Nat} {W : World} (h : PatRow B N k W) (hn : n ≤ k) (cap : Nat) : (convert 37 9 (.slice (some ⟨B, 0, none⟩) n cap)).run Try.prog W = .ok (.string ⟨(patL n).toArray⟩) W := by
  obtain ⟨cur, h1, h2, h3⟩ := h
  have := run_convert_bytes_back (P := Try.prog) W 37 9 5 ⟨B, 0, none⟩ cap (patL n) Try.underlying37 Try.underlying5 Try.underlying9 (by
    intro j hj
    have hj' : j < n := by rw [patL_len] at hj; exact hj
    rw [show (⟨B, 0, none⟩ : Addr).add j = ⟨B, j, none⟩ by (simp [Addr.add]; try omega), cell_of_row W B j cur _ _ h1, h3 j (by omega), patL_at, patB_nat])
  rw [patL_len] at this
  exact this
theorem pat_facts (N : Nat) (hN : N = 65537) : ∃ (l1 l2 : Bs) (o : List (List Wd)), (∀ B k W cap, PatRow B N k W → N ≤ k → (convert 37 9 (.slice (some ⟨B, 0, none⟩) 65536 cap)).run Try.prog W = .ok (.string ⟨l1.toArray⟩) W) ∧
    (∀ B k W cap, PatRow B N k W → N ≤ k → (convert 37 9 (.slice (some ⟨B, 0, none⟩) N cap)).run Try.prog W = .ok (.string ⟨l2.toArray⟩) W) ∧ linesR l1 = .ok o ∧ o.length = 1075 ∧ linesR l2 = .error (1, 1, 5) := by
  obtain ⟨M, hM⟩ : ∃ M, M = 65536 := ⟨_, rfl⟩
  rw [← hM]
  obtain ⟨o, h1, h2⟩ := tok_pat M hM
  refine ⟨patL M, patL N, o, fun B k W cap h hk => h.conv (by omega) cap, fun B k W cap h hk => h.conv hk cap, ?_, h2, ?_⟩
  · rw [linesR_tok _ (by rw [patL_len]; omega), h1]
  · unfold linesR
    rw [if_pos (by rw [patL_len]; omega)]
theorem sz97 : (⟨#[97]⟩ : ByteArray).size = 1 := rfl
theorem sz98 : (⟨#[98, 10, 32]⟩ : ByteArray).size = 3 := rfl
theorem sz35 : (⟨#[35]⟩ : ByteArray).size = 1 := rfl
theorem sz49 : (⟨#[49]⟩ : ByteArray).size = 1 := rfl
theorem info_u8 : (Try.prog.info? 5).map (fun i => (i.zero, i.size, i.bytes)) = some (some (.int .u8 0), 1, 1) := by kernel_rfl

set_option maxRecDepth 100000 in
set_option maxHeartbeats 4000000 in
theorem examples_walk (m : Int) (w : World) (hm : w.cell? ⟨0, 0, none⟩ = some (.int .i64 m)) :
    Calls Try.prog 5 #[] w fun e w' => e = .returned (.bool true) ∧ Below w.heap.size w w' := by
  have h0 : 0 < w.heap.size := World.block_lt_of_cell? w _ hm
  have HM := hid hm
  clear hm
  go_enter Try.func5, Try.ntmps5
  go_wp2_with fail
  go_loopw [1, 2] (fun iv cv W => ∃ k : Nat, k ≤ 256 ∧ iv = .int .i64 k ∧ Below w.heap.size w W) (fun iv _ _ => 256 - (intOf iv).toNat)
  case atStart => exact ⟨0, by omega, rfl, Below.refl _ _⟩
  case round =>
    obtain ⟨k, hk, rfl, hbw⟩ := hrel
    have HB0 := hid hbw
    clear hbw
    by_cases hlt : k < 256
    · obtain ⟨C, hCC⟩ : ∃ C : UInt8, (C.toNat : Int) = (k : Int) := ⟨UInt8.ofNat k, by rw [UInt8.toNat_ofNat']; omega⟩
      have hcv := fun wx => conv8 C (k : Int) hCC wx
      have hz : (⟨#[C]⟩ : ByteArray).size = 1 := rfl
      have hwk : IntKind.u8.wrap (k : Int) = k := IntWalk.u8_in _ (by omega)
      go_wp2_with fail
      have HB1 := hid (show Below w.heap.size w (wr.alloc (.cells #[.int .u8 (k : Int)] 5)) from HB0.out.alloc HB0.out.size _)
      generalize wr.alloc _ = w1 at *
      go_wp2_with fail
      refine (tlines_walk _ m _ (by simp only [ByteArray.size_append, hz, sz97, sz98, sz35, sz49]; omega) ((HB1.out.cell h0).trans HM.out)).mono ?_
      rintro e w2 ⟨rfl, hb2⟩
      have HB2 := hid (HB1.out.trans (hb2.mono HB1.out.size))
      clear hb2
      go_wp2_with fail
      refine (tlines_walk _ m _ (by simp only [ByteArray.size_append, hz, sz97, sz98, sz35, sz49]; omega) ((HB2.out.cell h0).trans HM.out)).mono ?_
      rintro e w3 ⟨rfl, hb3⟩
      have HB3 := hid (HB2.out.trans (hb3.mono HB2.out.size))
      clear hb3
      go_wp2_with fail
      refine (words_walk _ m _ (by simp only [ByteArray.size_append, hz, sz97, sz98, sz35, sz49]; omega) ((HB3.out.cell h0).trans HM.out)).mono ?_
      rintro e w4 ⟨rfl, hb4⟩
      have HB4 := hid (HB3.out.trans (hb4.mono HB3.out.size))
      clear hb4
      go_wp2_with fail
      refine (words_walk _ m _ (by simp only [ByteArray.size_append, hz, sz97, sz98, sz35, sz49]; omega) ((HB4.out.cell h0).trans HM.out)).mono ?_
      rintro e w5 ⟨rfl, hb5⟩
      have HB5 := hid (HB4.out.trans (hb5.mono HB4.out.size))
      clear hb5
      go_wp2_with fail
      refine (words_walk _ m _ (by simp only [ByteArray.size_append, hz, sz97, sz98, sz35, sz49]; omega) ((HB5.out.cell h0).trans HM.out)).mono ?_
      rintro e w6 ⟨rfl, hb6⟩
      have HB6 := hid (HB5.out.trans (hb6.mono HB5.out.size))
      clear hb6
      go_wp2
      go_roundw
      case rel => exact ⟨k + 1, by omega, by go_num, HB6.out⟩
      case measure => simp [intOf]; omega
    · have hk2 : decide ((k : Int) < 256) = false := by simp; omega
      clear hlt
      go_wp2_with fail
      generalize hD : (⟨#[49, 56, 52, 52, 54, 55, 52, 52, 48, 55, 51, 55, 48, 57, 53, 53, 49, 54, 49, 53]⟩ : ByteArray) = D
      have hz : D.size = 20 := by rw [← hD]; rfl
      clear hD
      go_loopw [4, 5, 6] (fun iv dv cv W => ∃ i : Nat, i ≤ 21 ∧ iv = .int .i64 i ∧ Below w.heap.size w W) (fun iv _ _ _ => 21 - (intOf iv).toNat)
      case atStart => exact ⟨0, by omega, rfl, HB0.out⟩
      case round =>
        obtain ⟨i, hi, rfl, hbi⟩ := hrel
        have HBI := hid hbi
        clear hbi
        by_cases hil : i < 21
        · have hdi : decide ((i : Int) ≤ 20) = true := by simp; omega
          go_wp2_with fail
          go_loopw [5, 6] (fun dv cv W => ∃ d : Nat, d ≤ 10 ∧ dv = .int .i64 d ∧ Below w.heap.size w W) (fun dv _ _ => 10 - (intOf dv).toNat)
          case atStart => exact ⟨0, by omega, rfl, HBI.out⟩
          case round =>
            obtain ⟨d, hd, rfl, hbd⟩ := hrel
            have HBD := hid hbd
            clear hbd
            by_cases hdl : d < 10
            · obtain ⟨C, hCC⟩ : ∃ C : UInt8, (C.toNat : Int) = 48 + (d : Int) := ⟨UInt8.ofNat (48 + d), by rw [UInt8.toNat_ofNat']; omega⟩
              have hcv := fun wx => conv8 C (48 + (d : Int)) hCC wx
              have hy : (⟨#[C]⟩ : ByteArray).size = 1 := rfl
              have hwk : IntKind.u8.wrap (48 + (d : Int)) = 48 + (d : Int) := IntWalk.u8_in _ (by omega)
              go_wp2_with fail
              have HB1 := hid (show Below w.heap.size w (wr.alloc (.cells #[.int .u8 (48 + (d : Int))] 5)) from HBD.out.alloc HBD.out.size _)
              generalize wr.alloc _ = w1 at *
              have hw1 : IntKind.i64.wrap ((i : Int) + 1) = (i : Int) + 1 := IntWalk.i64_in _ (by omega)
              have q1 : min (i : Int) 20 = (i : Int) := by omega
              have q3 : ¬ 9223372036854775807 < min i 20 + 1 := by omega
              have q9 : (i : Int) ≤ 20 := by omega
              have q0 : (D.extract 0 i).size ≤ 20 := by show (D.extract 0 i).data.size ≤ 20; rw [ByteArray.data_extract, Array.size_extract]; have : D.data.size = 20 := hz; omega
              by_cases h20 : i < 20
              · have q2 : min ((i : Int) + 1) 20 = (i : Int) + 1 := by omega
                have q4 : (D.extract (i + 1) 20).size ≤ 20 := by show (D.extract (i + 1) 20).data.size ≤ 20; rw [ByteArray.data_extract, Array.size_extract]; have : D.data.size = 20 := hz; omega
                have q7 : 0 ≤ (i : Int) + 1 := by omega
                have q8 : (i : Int) + 1 ≤ 20 := by omega
                have q5 : ¬ 9223372036854775807 < min i 20 + 1 + (min 20 20 - (i + 1)) := by omega
                have q6 : ¬ 9223372036854775807 < min i 20 + 1 + (19 - i) := by omega
                have hFa : ∀ f, Fence.wide.fn f := fun _ => trivial
                refine (wpIn_wide (n := 9)).1 ?_
                refine wpIn_onlyN ?_
                refine wpIn_region_HJ (fun _ : World => True) 29 (by kernel_rfl) ?_
                simp only [List.size_toArray, List.length_cons, List.length_nil, Nat.reduceAdd]
                refine wpHJ_pure (v := ?vx0) 0 hFa rfl (by kernel_rfl) (fun _ _ _ h => h.elim) (Or.inl ⟨by rfl, ?yx0⟩) (.inr trivial) ?rx0
                case yx0 => (intro w' _; go_simp; try rfl)
                simp only [Act.put, List.getElem_toArray, List.getElem_cons_succ, List.getElem_cons_zero, List.setIfInBounds_toArray, List.set_cons_zero, List.set_cons_succ]
                refine wpHJ_pure (v := ?vx1) 1 hFa rfl (by kernel_rfl) (fun _ _ _ h => h.elim) (Or.inl ⟨by rfl, ?yx1⟩) (.inr trivial) ?rx1
                case yx1 => (intro w' _; go_simp; try rfl)
                simp only [Act.put, List.getElem_toArray, List.getElem_cons_succ, List.getElem_cons_zero, List.setIfInBounds_toArray, List.set_cons_zero, List.set_cons_succ]
                refine wpHJ_pure (v := ?vx2) 2 hFa rfl (by kernel_rfl) (fun _ _ _ h => h.elim) (Or.inl ⟨by rfl, ?yx2⟩) (.inr trivial) ?rx2
                case yx2 => (intro w' _; go_simp; try rfl)
                simp only [Act.put, List.getElem_toArray, List.getElem_cons_succ, List.getElem_cons_zero, List.setIfInBounds_toArray, List.set_cons_zero, List.set_cons_succ]
                refine wpHJ_pure (v := ?vx3) 3 hFa rfl (by kernel_rfl) (fun _ _ _ h => h.elim) (Or.inl ⟨by rfl, ?yx3⟩) (.inr trivial) ?rx3
                case yx3 => (intro w' _; go_simp; try rfl)
                simp only [Act.put, List.getElem_toArray, List.getElem_cons_succ, List.getElem_cons_zero, List.setIfInBounds_toArray, List.set_cons_zero, List.set_cons_succ]
                refine wpHJ_pure (v := ?vx4) 4 hFa rfl (by kernel_rfl) (fun _ _ _ h => h.elim) (Or.inl ⟨by rfl, ?yx4⟩) (.inr trivial) ?rx4
                case yx4 => (intro w' _; go_simp; try rfl)
                simp only [Act.put, List.getElem_toArray, List.getElem_cons_succ, List.getElem_cons_zero, List.setIfInBounds_toArray, List.set_cons_zero, List.set_cons_succ]
                refine wpHJ_pure (v := ?vx5) 5 hFa rfl (by kernel_rfl) (fun _ _ _ h => h.elim) (Or.inl ⟨by rfl, ?yx5⟩) (.inr trivial) ?rx5
                case yx5 => (intro w' _; go_simp; try rfl)
                simp only [Act.put, List.getElem_toArray, List.getElem_cons_succ, List.getElem_cons_zero, List.setIfInBounds_toArray, List.set_cons_zero, List.set_cons_succ]
                refine wpHJ_pure (v := ?vx6) 6 hFa rfl (by kernel_rfl) (fun _ _ _ h => h.elim) (Or.inl ⟨by rfl, ?yx6⟩) (.inr trivial) ?rx6
                case yx6 => (intro w' _; go_simp; try rfl)
                simp only [Act.put, List.getElem_toArray, List.getElem_cons_succ, List.getElem_cons_zero, List.setIfInBounds_toArray, List.set_cons_zero, List.set_cons_succ]
                refine wpHJ_pure (v := ?vx7) 7 hFa rfl (by kernel_rfl) (fun _ _ _ h => h.elim) (Or.inl ⟨by rfl, ?yx7⟩) (.inr trivial) ?rx7
                case yx7 => (intro w' _; go_simp; try rfl)
                simp only [Act.put, List.getElem_toArray, List.getElem_cons_succ, List.getElem_cons_zero, List.setIfInBounds_toArray, List.set_cons_zero, List.set_cons_succ]
                refine wpHJ_only 8 (by kernel_rfl) rfl ?_
                intro K hK
                go_simp
                (with_reducible refine (callsIn_wide.2 (words_walk _ m w1.drew (by rw [ByteArray.size_append]; omega) ((HB1.out.drew.cell h0).trans HM.out))).mono ?_)
                rintro e w2 ⟨rfl, hb2⟩
                have HB2 := hid (HB1.out.drew.trans (hb2.mono HB1.out.drew.size))
                clear hb2
                refine hK _ _ (.inr (.inr trivial)) ?_
                clear hK K
                refine wpHJ_pure (v := ?vx9) 9 hFa rfl (by kernel_rfl) (fun _ _ _ h => h.elim) (Or.inl ⟨by rfl, ?yx9⟩) (.inr trivial) ?rx9
                case yx9 => (intro w' _; go_simp; try rfl)
                simp only [Act.put, List.getElem_toArray, List.getElem_cons_succ, List.getElem_cons_zero, List.setIfInBounds_toArray, List.set_cons_zero, List.set_cons_succ]
                refine wpHJ_pure (v := ?vx10) 10 hFa rfl (by kernel_rfl) (fun _ _ _ h => h.elim) (Or.inl ⟨by rfl, ?yx10⟩) (.inr trivial) ?rx10
                case yx10 => (intro w' _; go_simp; try rfl)
                simp only [Act.put, List.getElem_toArray, List.getElem_cons_succ, List.getElem_cons_zero, List.setIfInBounds_toArray, List.set_cons_zero, List.set_cons_succ]
                refine wpHJ_pure (v := ?vx11) 11 hFa rfl (by kernel_rfl) (fun _ _ _ h => h.elim) (Or.inl ⟨by simp [Region.wanted, yielded], ?yx11⟩) (.inr trivial) ?rx11
                case yx11 => (intro w' _; go_simp; try rfl)
                simp only [Act.put, List.getElem_toArray, List.getElem_cons_succ, List.getElem_cons_zero, List.setIfInBounds_toArray, List.set_cons_zero, List.set_cons_succ]
                refine wpHJ_pure (v := ?vx12) 12 hFa rfl (by kernel_rfl) (fun _ _ _ h => h.elim) (Or.inl ⟨by simp [Region.wanted, yielded], ?yx12⟩) (.inr trivial) ?rx12
                case yx12 => (intro w' _; go_simp; try rfl)
                simp only [Act.put, List.getElem_toArray, List.getElem_cons_succ, List.getElem_cons_zero, List.setIfInBounds_toArray, List.set_cons_zero, List.set_cons_succ]
                refine wpHJ_pure (v := ?vx13) 13 hFa rfl (by kernel_rfl) (fun _ _ _ h => h.elim) (Or.inl ⟨by simp [Region.wanted, yielded], ?yx13⟩) (.inr trivial) ?rx13
                case yx13 => (intro w' _; go_simp; try rfl)
                simp only [Act.put, List.getElem_toArray, List.getElem_cons_succ, List.getElem_cons_zero, List.setIfInBounds_toArray, List.set_cons_zero, List.set_cons_succ]
                refine wpHJ_pure (v := ?vx14) 14 hFa rfl (by kernel_rfl) (fun _ _ _ h => h.elim) (Or.inl ⟨by simp [Region.wanted, yielded], ?yx14⟩) (.inr trivial) ?rx14
                case yx14 => (intro w' _; go_simp; try rfl)
                simp only [Act.put, List.getElem_toArray, List.getElem_cons_succ, List.getElem_cons_zero, List.setIfInBounds_toArray, List.set_cons_zero, List.set_cons_succ]
                refine wpHJ_pure (v := ?vx15) 15 hFa rfl (by kernel_rfl) (fun _ _ _ h => h.elim) (Or.inl ⟨by simp [Region.wanted, yielded], ?yx15⟩) (.inr trivial) ?rx15
                case yx15 => (intro w' _; go_simp; try rfl)
                simp only [Act.put, List.getElem_toArray, List.getElem_cons_succ, List.getElem_cons_zero, List.setIfInBounds_toArray, List.set_cons_zero, List.set_cons_succ]
                refine wpHJ_pure (v := ?vx16) 16 hFa rfl (by kernel_rfl) (fun _ _ _ h => h.elim) (Or.inl ⟨by simp [Region.wanted, yielded], ?yx16⟩) (.inr trivial) ?rx16
                case yx16 => (intro w' _; go_simp; try rfl)
                simp only [Act.put, List.getElem_toArray, List.getElem_cons_succ, List.getElem_cons_zero, List.setIfInBounds_toArray, List.set_cons_zero, List.set_cons_succ]
                refine wpHJ_pure (v := ?vx17) 17 hFa rfl (by kernel_rfl) (fun _ _ _ h => h.elim) (Or.inl ⟨by simp [Region.wanted, yielded], ?yx17⟩) (.inr trivial) ?rx17
                case yx17 => (intro w' _; go_simp; try rfl)
                simp only [Act.put, List.getElem_toArray, List.getElem_cons_succ, List.getElem_cons_zero, List.setIfInBounds_toArray, List.set_cons_zero, List.set_cons_succ]
                refine wpHJ_pure (v := ?vx18) 18 hFa rfl (by kernel_rfl) (fun _ _ _ h => h.elim) (Or.inl ⟨by simp [Region.wanted, yielded], ?yx18⟩) (.inr trivial) ?rx18
                case yx18 => (intro w' _; go_simp; try rfl)
                simp only [Act.put, List.getElem_toArray, List.getElem_cons_succ, List.getElem_cons_zero, List.setIfInBounds_toArray, List.set_cons_zero, List.set_cons_succ]
                refine wpHJ_pure (v := ?vx19) 19 hFa rfl (by kernel_rfl) (fun _ _ _ h => h.elim) (Or.inl ⟨by simp [Region.wanted, yielded], ?yx19⟩) (.inr trivial) ?rx19
                case yx19 => (intro w' _; go_simp; try rfl)
                simp only [Act.put, List.getElem_toArray, List.getElem_cons_succ, List.getElem_cons_zero, List.setIfInBounds_toArray, List.set_cons_zero, List.set_cons_succ]
                refine wpHJ_pure (v := ?vx20) 20 hFa rfl (by kernel_rfl) (fun _ _ _ h => h.elim) (Or.inl ⟨by simp [Region.wanted, yielded], ?yx20⟩) (.inr trivial) ?rx20
                case yx20 => (intro w' _; go_simp; try rfl)
                simp only [Act.put, List.getElem_toArray, List.getElem_cons_succ, List.getElem_cons_zero, List.setIfInBounds_toArray, List.set_cons_zero, List.set_cons_succ]
                refine wpHJ_pure (v := ?vx21) 21 hFa rfl (by kernel_rfl) (fun _ _ _ h => h.elim) (Or.inl ⟨by simp [Region.wanted, yielded], ?yx21⟩) (.inr trivial) ?rx21
                case yx21 => (intro w' _; go_simp; try rfl)
                simp only [Act.put, List.getElem_toArray, List.getElem_cons_succ, List.getElem_cons_zero, List.setIfInBounds_toArray, List.set_cons_zero, List.set_cons_succ]
                refine wpHJ_pure (v := ?vx22) 22 hFa rfl (by kernel_rfl) (fun _ _ _ h => h.elim) (Or.inl ⟨by simp [Region.wanted, yielded], ?yx22⟩) (.inr trivial) ?rx22
                case yx22 => (intro w' _; go_simp; try rfl)
                simp only [Act.put, List.getElem_toArray, List.getElem_cons_succ, List.getElem_cons_zero, List.setIfInBounds_toArray, List.set_cons_zero, List.set_cons_succ]
                refine wpHJ_pure (v := ?vx23) 23 hFa rfl (by kernel_rfl) (fun _ _ _ h => h.elim) (Or.inl ⟨by simp [Region.wanted, yielded], ?yx23⟩) (.inr trivial) ?rx23
                case yx23 => (intro w' _; go_simp; try rfl)
                simp only [Act.put, List.getElem_toArray, List.getElem_cons_succ, List.getElem_cons_zero, List.setIfInBounds_toArray, List.set_cons_zero, List.set_cons_succ]
                refine wpHJ_pure (v := ?vx24) 24 hFa rfl (by kernel_rfl) (fun _ _ _ h => h.elim) (Or.inl ⟨by simp [Region.wanted, yielded], ?yx24⟩) (.inr trivial) ?rx24
                case yx24 => (intro w' _; go_simp; try rfl)
                simp only [Act.put, List.getElem_toArray, List.getElem_cons_succ, List.getElem_cons_zero, List.setIfInBounds_toArray, List.set_cons_zero, List.set_cons_succ]
                refine wpHJ_pure (v := ?vx25) 25 hFa rfl (by kernel_rfl) (fun _ _ _ h => h.elim) (Or.inl ⟨by simp [Region.wanted, yielded], ?yx25⟩) (.inr trivial) ?rx25
                case yx25 => (intro w' _; go_simp; try rfl)
                simp only [Act.put, List.getElem_toArray, List.getElem_cons_succ, List.getElem_cons_zero, List.setIfInBounds_toArray, List.set_cons_zero, List.set_cons_succ]
                refine wpHJ_pure (v := ?vx26) 26 hFa rfl (by kernel_rfl) (fun _ _ _ h => h.elim) (Or.inl ⟨by simp [Region.wanted, yielded], ?yx26⟩) (.inr trivial) ?rx26
                case yx26 => (intro w' _; go_simp; try rfl)
                simp only [Act.put, List.getElem_toArray, List.getElem_cons_succ, List.getElem_cons_zero, List.setIfInBounds_toArray, List.set_cons_zero, List.set_cons_succ]
                refine wpHJ_only 27 (by kernel_rfl) rfl ?_
                intro K hK
                rw [if_pos (by simp [Region.wanted, yielded])]
                go_simp
                (with_reducible refine (callsIn_wide.2 (words_walk _ m w2 (by first | (rw [ByteArray.size_append, ByteArray.size_append]; omega) | (rw [ByteArray.size_append]; omega)) ((HB2.out.cell h0).trans HM.out))).mono ?_)
                rintro e w3 ⟨rfl, hb3⟩
                have HB3 := hid (HB2.out.trans (hb3.mono HB2.out.size))
                clear hb3
                refine hK _ _ (.inr (.inr trivial)) ?_
                clear hK K
                refine wpHJ_pure (v := ?vx28) 28 hFa rfl (by kernel_rfl) (fun _ _ _ h => h.elim) (Or.inl ⟨by simp [Region.wanted, yielded], ?yx28⟩) (.inr trivial) ?rx28
                case yx28 => (intro w' _; go_simp; try rfl)
                simp only [Act.put, List.getElem_toArray, List.getElem_cons_succ, List.getElem_cons_zero, List.setIfInBounds_toArray, List.set_cons_zero, List.set_cons_succ]
                refine wpHJ_only 29 (by kernel_rfl) rfl ?_
                intro K hK
                go_simp
                refine hK _ _ (.inl rfl) ?_
                clear hK K
                refine wpHJ_done (by kernel_rfl) ?_ _
                simp only [onlyN, Exit.then]
                clear hFa
                go_wp2
                go_roundw
                case rel => exact ⟨d + 1, by omega, by go_num, HB3.out⟩
                case measure => simp [intOf]; omega
              · have q2 : min ((i : Int) + 1) 20 = 20 := by omega
                have q4 : (D.extract 20 20).size ≤ 20 := by show (D.extract 20 20).data.size ≤ 20; rw [ByteArray.data_extract, Array.size_extract]; have : D.data.size = 20 := hz; omega
                have hFa : ∀ f, Fence.wide.fn f := fun _ => trivial
                refine (wpIn_wide (n := 9)).1 ?_
                refine wpIn_onlyN ?_
                refine wpIn_region_HJ (fun _ : World => True) 29 (by kernel_rfl) ?_
                simp only [List.size_toArray, List.length_cons, List.length_nil, Nat.reduceAdd]
                refine wpHJ_pure (v := ?vy0) 0 hFa rfl (by kernel_rfl) (fun _ _ _ h => h.elim) (Or.inl ⟨by rfl, ?yy0⟩) (.inr trivial) ?ry0
                case yy0 => (intro w' _; go_simp; try rfl)
                simp only [Act.put, List.getElem_toArray, List.getElem_cons_succ, List.getElem_cons_zero, List.setIfInBounds_toArray, List.set_cons_zero, List.set_cons_succ]
                refine wpHJ_pure (v := ?vy1) 1 hFa rfl (by kernel_rfl) (fun _ _ _ h => h.elim) (Or.inl ⟨by rfl, ?yy1⟩) (.inr trivial) ?ry1
                case yy1 => (intro w' _; go_simp; try rfl)
                simp only [Act.put, List.getElem_toArray, List.getElem_cons_succ, List.getElem_cons_zero, List.setIfInBounds_toArray, List.set_cons_zero, List.set_cons_succ]
                refine wpHJ_pure (v := ?vy2) 2 hFa rfl (by kernel_rfl) (fun _ _ _ h => h.elim) (Or.inl ⟨by rfl, ?yy2⟩) (.inr trivial) ?ry2
                case yy2 => (intro w' _; go_simp; try rfl)
                simp only [Act.put, List.getElem_toArray, List.getElem_cons_succ, List.getElem_cons_zero, List.setIfInBounds_toArray, List.set_cons_zero, List.set_cons_succ]
                refine wpHJ_pure (v := ?vy3) 3 hFa rfl (by kernel_rfl) (fun _ _ _ h => h.elim) (Or.inl ⟨by rfl, ?yy3⟩) (.inr trivial) ?ry3
                case yy3 => (intro w' _; go_simp; try rfl)
                simp only [Act.put, List.getElem_toArray, List.getElem_cons_succ, List.getElem_cons_zero, List.setIfInBounds_toArray, List.set_cons_zero, List.set_cons_succ]
                refine wpHJ_pure (v := ?vy4) 4 hFa rfl (by kernel_rfl) (fun _ _ _ h => h.elim) (Or.inl ⟨by rfl, ?yy4⟩) (.inr trivial) ?ry4
                case yy4 => (intro w' _; go_simp; try rfl)
                simp only [Act.put, List.getElem_toArray, List.getElem_cons_succ, List.getElem_cons_zero, List.setIfInBounds_toArray, List.set_cons_zero, List.set_cons_succ]
                refine wpHJ_pure (v := ?vy5) 5 hFa rfl (by kernel_rfl) (fun _ _ _ h => h.elim) (Or.inl ⟨by rfl, ?yy5⟩) (.inr trivial) ?ry5
                case yy5 => (intro w' _; go_simp; try rfl)
                simp only [Act.put, List.getElem_toArray, List.getElem_cons_succ, List.getElem_cons_zero, List.setIfInBounds_toArray, List.set_cons_zero, List.set_cons_succ]
                refine wpHJ_pure (v := ?vy6) 6 hFa rfl (by kernel_rfl) (fun _ _ _ h => h.elim) (Or.inl ⟨by rfl, ?yy6⟩) (.inr trivial) ?ry6
                case yy6 => (intro w' _; go_simp; try rfl)
                simp only [Act.put, List.getElem_toArray, List.getElem_cons_succ, List.getElem_cons_zero, List.setIfInBounds_toArray, List.set_cons_zero, List.set_cons_succ]
                refine wpHJ_pure (v := ?vy7) 7 hFa rfl (by kernel_rfl) (fun _ _ _ h => h.elim) (Or.inl ⟨by rfl, ?yy7⟩) (.inr trivial) ?ry7
                case yy7 => (intro w' _; go_simp; try rfl)
                simp only [Act.put, List.getElem_toArray, List.getElem_cons_succ, List.getElem_cons_zero, List.setIfInBounds_toArray, List.set_cons_zero, List.set_cons_succ]
                refine wpHJ_only 8 (by kernel_rfl) rfl ?_
                intro K hK
                go_simp
                (with_reducible refine (callsIn_wide.2 (words_walk _ m w1.drew (by rw [ByteArray.size_append]; omega) ((HB1.out.drew.cell h0).trans HM.out))).mono ?_)
                rintro e w2 ⟨rfl, hb2⟩
                have HB2 := hid (HB1.out.drew.trans (hb2.mono HB1.out.drew.size))
                clear hb2
                refine hK _ _ (.inr (.inr trivial)) ?_
                clear hK K
                refine wpHJ_pure (v := ?vy9) 9 hFa rfl (by kernel_rfl) (fun _ _ _ h => h.elim) (Or.inl ⟨by rfl, ?yy9⟩) (.inr trivial) ?ry9
                case yy9 => (intro w' _; go_simp; try rfl)
                simp only [Act.put, List.getElem_toArray, List.getElem_cons_succ, List.getElem_cons_zero, List.setIfInBounds_toArray, List.set_cons_zero, List.set_cons_succ]
                refine wpHJ_pure (v := ?vy10) 10 hFa rfl (by kernel_rfl) (fun _ _ _ h => h.elim) (Or.inl ⟨by rfl, ?yy10⟩) (.inr trivial) ?ry10
                case yy10 => (intro w' _; go_simp; try rfl)
                simp only [Act.put, List.getElem_toArray, List.getElem_cons_succ, List.getElem_cons_zero, List.setIfInBounds_toArray, List.set_cons_zero, List.set_cons_succ]
                refine wpHJ_pure (v := ?vy11) 11 hFa rfl (by kernel_rfl) (fun _ _ _ h => h.elim) (Or.inl ⟨by simp [Region.wanted, yielded], ?yy11⟩) (.inr trivial) ?ry11
                case yy11 => (intro w' _; go_simp; try rfl)
                simp only [Act.put, List.getElem_toArray, List.getElem_cons_succ, List.getElem_cons_zero, List.setIfInBounds_toArray, List.set_cons_zero, List.set_cons_succ]
                refine wpHJ_pure (v := ?vy12) 12 hFa rfl (by kernel_rfl) (fun _ _ _ h => h.elim) (Or.inl ⟨by simp [Region.wanted, yielded], ?yy12⟩) (.inr trivial) ?ry12
                case yy12 => (intro w' _; go_simp; try rfl)
                simp only [Act.put, List.getElem_toArray, List.getElem_cons_succ, List.getElem_cons_zero, List.setIfInBounds_toArray, List.set_cons_zero, List.set_cons_succ]
                refine wpHJ_pure (v := ?vy13) 13 hFa rfl (by kernel_rfl) (fun _ _ _ h => h.elim) (Or.inl ⟨by simp [Region.wanted, yielded], ?yy13⟩) (.inr trivial) ?ry13
                case yy13 => (intro w' _; go_simp; try rfl)
                simp only [Act.put, List.getElem_toArray, List.getElem_cons_succ, List.getElem_cons_zero, List.setIfInBounds_toArray, List.set_cons_zero, List.set_cons_succ]
                refine wpHJ_pure (v := ?vy14) 14 hFa rfl (by kernel_rfl) (fun _ _ _ h => h.elim) (Or.inl ⟨by simp [Region.wanted, yielded], ?yy14⟩) (.inr trivial) ?ry14
                case yy14 => (intro w' _; go_simp; try rfl)
                simp only [Act.put, List.getElem_toArray, List.getElem_cons_succ, List.getElem_cons_zero, List.setIfInBounds_toArray, List.set_cons_zero, List.set_cons_succ]
                refine wpHJ_pure (v := ?vy15) 15 hFa rfl (by kernel_rfl) (fun _ _ _ h => h.elim) (Or.inl ⟨by simp [Region.wanted, yielded], ?yy15⟩) (.inr trivial) ?ry15
                case yy15 => (intro w' _; go_simp; try rfl)
                simp only [Act.put, List.getElem_toArray, List.getElem_cons_succ, List.getElem_cons_zero, List.setIfInBounds_toArray, List.set_cons_zero, List.set_cons_succ]
                refine wpHJ_pure (v := ?vy16) 16 hFa rfl (by kernel_rfl) (fun _ _ _ h => h.elim) (Or.inl ⟨by simp [Region.wanted, yielded], ?yy16⟩) (.inr trivial) ?ry16
                case yy16 => (intro w' _; go_simp; try rfl)
                simp only [Act.put, List.getElem_toArray, List.getElem_cons_succ, List.getElem_cons_zero, List.setIfInBounds_toArray, List.set_cons_zero, List.set_cons_succ]
                refine wpHJ_pure (v := ?vy17) 17 hFa rfl (by kernel_rfl) (fun _ _ _ h => h.elim) (Or.inl ⟨by simp [Region.wanted, yielded], ?yy17⟩) (.inr trivial) ?ry17
                case yy17 => (intro w' _; go_simp; try rfl)
                simp only [Act.put, List.getElem_toArray, List.getElem_cons_succ, List.getElem_cons_zero, List.setIfInBounds_toArray, List.set_cons_zero, List.set_cons_succ]
                refine wpHJ_pure (v := ?vy18) 18 hFa rfl (by kernel_rfl) (fun _ _ _ h => h.elim) (Or.inl ⟨by simp [Region.wanted, yielded], ?yy18⟩) (.inr trivial) ?ry18
                case yy18 => (intro w' _; go_simp; try rfl)
                simp only [Act.put, List.getElem_toArray, List.getElem_cons_succ, List.getElem_cons_zero, List.setIfInBounds_toArray, List.set_cons_zero, List.set_cons_succ]
                refine wpHJ_pure (v := ?vy19) 19 hFa rfl (by kernel_rfl) (fun _ _ _ h => h.elim) (Or.inl ⟨by simp [Region.wanted, yielded], ?yy19⟩) (.inr trivial) ?ry19
                case yy19 => (intro w' _; go_simp; try rfl)
                simp only [Act.put, List.getElem_toArray, List.getElem_cons_succ, List.getElem_cons_zero, List.setIfInBounds_toArray, List.set_cons_zero, List.set_cons_succ]
                refine wpHJ_pure (v := ?vy20) 20 hFa rfl (by kernel_rfl) (fun _ _ _ h => h.elim) (Or.inl ⟨by simp [Region.wanted, yielded], ?yy20⟩) (.inr trivial) ?ry20
                case yy20 => (intro w' _; go_simp; try rfl)
                simp only [Act.put, List.getElem_toArray, List.getElem_cons_succ, List.getElem_cons_zero, List.setIfInBounds_toArray, List.set_cons_zero, List.set_cons_succ]
                refine wpHJ_pure (v := ?vy21) 21 hFa rfl (by kernel_rfl) (fun _ _ _ h => h.elim) (Or.inl ⟨by simp [Region.wanted, yielded], ?yy21⟩) (.inr trivial) ?ry21
                case yy21 => (intro w' _; go_simp; try rfl)
                simp only [Act.put, List.getElem_toArray, List.getElem_cons_succ, List.getElem_cons_zero, List.setIfInBounds_toArray, List.set_cons_zero, List.set_cons_succ]
                refine wpHJ_pure (v := ?vy22) 22 hFa rfl (by kernel_rfl) (fun _ _ _ h => h.elim) (Or.inl ⟨by simp [Region.wanted, yielded], ?yy22⟩) (.inr trivial) ?ry22
                case yy22 => (intro w' _; go_simp; try rfl)
                simp only [Act.put, List.getElem_toArray, List.getElem_cons_succ, List.getElem_cons_zero, List.setIfInBounds_toArray, List.set_cons_zero, List.set_cons_succ]
                refine wpHJ_pure (v := ?vy23) 23 hFa rfl (by kernel_rfl) (fun _ _ _ h => h.elim) (Or.inl ⟨by simp [Region.wanted, yielded], ?yy23⟩) (.inr trivial) ?ry23
                case yy23 => (intro w' _; go_simp; try rfl)
                simp only [Act.put, List.getElem_toArray, List.getElem_cons_succ, List.getElem_cons_zero, List.setIfInBounds_toArray, List.set_cons_zero, List.set_cons_succ]
                refine wpHJ_pure (v := ?vy24) 24 hFa rfl (by kernel_rfl) (fun _ _ _ h => h.elim) (Or.inl ⟨by simp [Region.wanted, yielded], ?yy24⟩) (.inr trivial) ?ry24
                case yy24 => (intro w' _; go_simp; try rfl)
                simp only [Act.put, List.getElem_toArray, List.getElem_cons_succ, List.getElem_cons_zero, List.setIfInBounds_toArray, List.set_cons_zero, List.set_cons_succ]
                refine wpHJ_pure (v := ?vy25) 25 hFa rfl (by kernel_rfl) (fun _ _ _ h => h.elim) (Or.inl ⟨by simp [Region.wanted, yielded], ?yy25⟩) (.inr trivial) ?ry25
                case yy25 => (intro w' _; go_simp; try rfl)
                simp only [Act.put, List.getElem_toArray, List.getElem_cons_succ, List.getElem_cons_zero, List.setIfInBounds_toArray, List.set_cons_zero, List.set_cons_succ]
                refine wpHJ_pure (v := ?vy26) 26 hFa rfl (by kernel_rfl) (fun _ _ _ h => h.elim) (Or.inl ⟨by simp [Region.wanted, yielded], ?yy26⟩) (.inr trivial) ?ry26
                case yy26 => (intro w' _; go_simp; try rfl)
                simp only [Act.put, List.getElem_toArray, List.getElem_cons_succ, List.getElem_cons_zero, List.setIfInBounds_toArray, List.set_cons_zero, List.set_cons_succ]
                refine wpHJ_only 27 (by kernel_rfl) rfl ?_
                intro K hK
                rw [if_pos (by simp [Region.wanted, yielded])]
                go_simp
                (with_reducible refine (callsIn_wide.2 (words_walk _ m w2 (by first | (rw [ByteArray.size_append, ByteArray.size_append]; omega) | (rw [ByteArray.size_append]; omega)) ((HB2.out.cell h0).trans HM.out))).mono ?_)
                rintro e w3 ⟨rfl, hb3⟩
                have HB3 := hid (HB2.out.trans (hb3.mono HB2.out.size))
                clear hb3
                refine hK _ _ (.inr (.inr trivial)) ?_
                clear hK K
                refine wpHJ_pure (v := ?vy28) 28 hFa rfl (by kernel_rfl) (fun _ _ _ h => h.elim) (Or.inl ⟨by simp [Region.wanted, yielded], ?yy28⟩) (.inr trivial) ?ry28
                case yy28 => (intro w' _; go_simp; try rfl)
                simp only [Act.put, List.getElem_toArray, List.getElem_cons_succ, List.getElem_cons_zero, List.setIfInBounds_toArray, List.set_cons_zero, List.set_cons_succ]
                refine wpHJ_only 29 (by kernel_rfl) rfl ?_
                intro K hK
                go_simp
                refine hK _ _ (.inl rfl) ?_
                clear hK K
                refine wpHJ_done (by kernel_rfl) ?_ _
                simp only [onlyN, Exit.then]
                clear hFa
                go_wp2
                go_roundw
                case rel => exact ⟨d + 1, by omega, by go_num, HB3.out⟩
                case measure => simp [intOf]; omega
            · obtain rfl : d = 10 := by omega
              go_wp2
              go_roundw
              case rel => exact ⟨i + 1, by omega, by go_num, HBD.out⟩
              case measure => simp [intOf]; omega
        · have hdi : decide ((i : Int) ≤ 20) = false := by simp; omega
          clear hil
          obtain ⟨N, hN⟩ : ∃ N : Nat, N = 65537 := ⟨_, rfl⟩
          obtain ⟨l1, l2, o, hc1, hc2, hl1, ho, hl2⟩ := pat_facts N hN
          have hmk : ∀ w, (Instr.makeSlice 37 (.int .i64 65537) (.int .i64 65537)).run Try.prog w = .ok (.slice (some ⟨w.heap.size, 0, none⟩) N N) (w.alloc (.cells (Array.replicate N (.int .u8 0)) 5)) := by
            subst hN; exact make_runK Try.underlying37 info_u8 rfl 65537 (by omega) (by omega)
          have hnb : 65536 ≤ N ∧ N ≤ 65537 := by omega
          have HC1 := hid hc1; have HC2 := hid hc2
          have HL1 := hid (fun w hm => lines_ok hl1 m w hm); have HL2 := hid (fun w hm => lines_err hl2 m w hm)
          rw [ho] at HL1
          clear hc1 hc2 hl1 hl2 ho hN
          go_wp2_with fail
          clear hmk
          obtain ⟨wb, hwb⟩ : ∃ wb : World, wb = wr := ⟨_, rfl⟩
          have hp0 : PatRow wr.heap.size N 0 (wr.alloc (.cells (Array.replicate N (.int .u8 0)) 5)) := ⟨_, by rw [heap_al, if_pos rfl], by simp, fun j hj => by omega⟩
          have hbl0 := HBI.out.alloc HBI.out.size (.cells (Array.replicate N (.int .u8 0)) 5)
          have hBs := HBI.out.size
          generalize wr.alloc _ = w1 at *
          generalize wr.heap.size = B at *
          have HP0 := hid hp0; have HBL0 := hid hbl0
          clear hp0 hbl0
          go_loopw [8] (fun iv W => ∃ k : Nat, k ≤ N ∧ iv = .int .i64 k ∧ PatRow B N k W ∧ Below w.heap.size w W) (fun iv _ => N - (intOf iv).toNat)
          case atStart => exact ⟨0, by omega, rfl, HP0.out, HBL0.out⟩
          case round =>
            obtain ⟨k, hk, rfl, hp, hb⟩ := hrel
            have HP := hid hp; have HB := hid hb
            clear hp hb
            by_cases hlt : k < N
            · obtain ⟨u, d1, d2⟩ := HP.out.cell k hlt
              by_cases h60 : k % 61 = 60
              · have a1 : ((k : Int) % 61 == 60) = true := by simp; omega
                have hpk : patN k = 10 := by unfold patN; rw [if_pos h60]
                have HP1 := hid (HP.out.over (.int .u8 97))
                have HP2 := hid (show PatRow B N (k + 1) ((wr.setCell ⟨B, k, none⟩ (.int .u8 97)).setCell ⟨B, k, none⟩ (.int .u8 10)) from by have := HP1.out.put hlt; rw [hpk] at this; exact this)
                have HB2 := hid ((HB.out.setCell (p := ⟨B, k, none⟩) hBs (.int .u8 97)).setCell (p := ⟨B, k, none⟩) hBs (.int .u8 10))
                obtain ⟨u1, e1, e2⟩ := HP1.out.cell k hlt
                clear h60 hpk
                go_wp2
                go_roundw
                case rel => exact ⟨k + 1, by omega, by go_num, HP2.out, HB2.out⟩
                case measure => simp [intOf]; omega
              · have a1 : ((k : Int) % 61 == 60) = false := by simp; omega
                have hpk : patN k = 97 := by unfold patN; rw [if_neg h60]
                have HP2 := hid (show PatRow B N (k + 1) (wr.setCell ⟨B, k, none⟩ (.int .u8 97)) from by have := HP.out.put hlt; rw [hpk] at this; exact this)
                have HB2 := hid (HB.out.setCell (p := ⟨B, k, none⟩) hBs (.int .u8 97))
                clear h60 hpk
                go_wp2
                go_roundw
                case rel => exact ⟨k + 1, by omega, by go_num, HP2.out, HB2.out⟩
                case measure => simp [intOf]; omega
            · have hkn : N ≤ k := by omega
              have hdk : decide ((k : Int) < (N : Int)) = false := by simp; omega
              have hcv1 := fun cap => HC1.out B k wr cap HP.out hkn
              clear hlt
              go_wp2_with fail
              clear hcv1
              refine (HL1.out wr ((HB.out.cell h0).trans HM.out)).mono ?_
              rintro e w3 ⟨hb3, p3, c3, rfl, _, _⟩
              have hb4 : Below wr.heap.size wr (w3.alloc (.cells #[.int .i64 0, .int .i64 0] 24)) := hb3.alloc hb3.size _
              have HP4 := hid (HP.out.keep (hb4.block B HP.out.size))
              have HB4 := hid (HB.out.trans (hb4.mono HB.out.size))
              have hx4 : (w3.alloc (.cells #[.int .i64 0, .int .i64 0] 24)).heap[w3.heap.size]? = some (.cells #[.int .i64 0, .int .i64 0] 24 (0, 0)) := by rw [heap_al, if_pos rfl]
              have hs4 : w3.heap.size < (w3.alloc (.cells #[.int .i64 0, .int .i64 0] 24)).heap.size := by rw [World.size_alloc]; omega
              have hcv2 := fun cap => HC2.out B k _ cap HP4.out hkn
              clear hb3 hb4
              go_wp2_with fail
              generalize w3.alloc _ = w4 at *
              generalize w3.heap.size = b4 at *
              have HX4 := hid hx4
              clear hx4 hcv2
              refine (HL2.out w4 ((HB4.out.cell h0).trans HM.out)).mono ?_
              rintro e w5 ⟨hb5, rfl⟩
              have hb6 : Below w4.heap.size w4 (w5.alloc (.cells #[.int .i64 1, .int .i64 1] 24)) := hb5.alloc hb5.size _
              have HB6 := hid (HB4.out.trans (hb6.mono HB4.out.size))
              obtain ⟨c1, c1', _, _⟩ := cell_lit2 ((hb6.block b4 hs4).trans HX4.out)
              obtain ⟨c2, c2', _, _⟩ := cell_lit2 (show (w5.alloc (.cells #[.int .i64 1, .int .i64 1] 24)).heap[w5.heap.size]? = some (.cells #[.int .i64 1, .int .i64 1] 24 (0, 0)) by rw [heap_al, if_pos rfl])
              clear hb5 hb6
              go_wp2_with fail
              generalize w5.alloc _ = w6 at *
              refine (awake_any m w6 ((HB6.out.cell h0).trans HM.out)).mono ?_
              rintro e w7 ⟨rfl, hb7⟩
              have HB7 := hid (HB6.out.trans (hb7.mono HB6.out.size))
              clear hb7
              go_wp2
              go_ret
              exact ⟨rfl, HB7.out⟩

end Go.Proofs.Ytgldgkaigomceaa
