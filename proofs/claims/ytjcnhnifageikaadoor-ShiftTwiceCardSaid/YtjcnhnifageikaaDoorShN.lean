/-
  The closure of ShiftTwice, walked; a shift by a sum (plain).
-/
import Derived.Test.YtjcnhnifageikaaDoorShBy
namespace Go.Proofs.YtjcnhnifageikaaDoor
set_option linter.unusedSimpArgs false
set_option linter.unusedVariables false
open Go.RowKit Go.Shelf
attribute [local go_sem] Oper.semAt_some

theorem yL_fixed {n : Nat} {σ : Nat → Bool} {F : Form} (hg : Good n σ F) (W q : Nat) : LitsAre σ F (yL W q false) (ofB W q) := by
  refine ⟨fun x hx => ?_, ?_⟩
  · obtain ⟨i, _, rfl⟩ := List.mem_map.1 hx
    unfold yLit
    rw [if_neg (by decide)]
    split
    · exact hg.ok1
    · exact ok_neg hg.ok1
  · refine List.ext_getElem (by rw [List.length_map, yL_len, ofB_len]) fun i h1 h2 => ?_
    have hi : i < W := by rw [ofB_len] at h2; exact h2
    rw [List.getElem_map, ofB_get W q i hi]
    have e : (yL W q false)[i]'(by rw [yL_len]; exact hi) = yLit W q false i := by simp [yL]
    rw [e]
    unfold yLit
    rw [if_neg (by decide)]
    by_cases h : decide (q / 2 ^ i % 2 = 1) = true
    · rw [if_pos h, hg.t1, h]
    · rw [if_neg h, hg.tm1]
      simpa using h

/-- A shift by a sum that is less than the width. -/
theorem shB_twice (op : Int) (hop : op = 12 ∨ op = 13 ∨ op = 14) (a : List Bool) (m n : Nat) (h : m + n < a.length) : shB op (shB op a (ofB a.length m)) (ofB a.length n) = shB op a (ofB a.length (m + n)) := by
  have hv : ∀ k, k < a.length → valB (ofB a.length k) = k := fun k hk => by
    rw [valB_ofB]
    exact Nat.mod_eq_of_lt (Nat.lt_trans hk Nat.lt_two_pow_self)
  have hf : fillB op (shB op a (ofB a.length m)) = fillB op a := by
    unfold fillB
    rw [shB_len]
    rcases hop with rfl | rfl | rfl
    · rfl
    · rfl
    · simp only [decide_true, Bool.true_and]
      unfold shB
      rw [getD_in _ _ _ (show a.length - 1 < (shL (decide ((14 : Int) = 12)) (valB (ofB a.length m)) (fillB 14 a) a).length by rw [shL_len]; omega), shL_get, if_neg (by decide), hv m (by omega)]
      unfold fillB
      simp only [decide_true, Bool.true_and]
      by_cases hm : m = 0
      · subst hm
        rw [Nat.add_zero]
        rw [List.getD_eq_getElem?_getD, List.getD_eq_getElem?_getD, List.getElem?_eq_getElem (show a.length - 1 < a.length by omega)]
        rfl
      · rw [getD_out _ _ _ (by omega)]
  have e1 : shB op (shB op a (ofB a.length m)) (ofB a.length n) = shL (decide (op = 12)) (valB (ofB a.length n)) (fillB op (shB op a (ofB a.length m))) (shB op a (ofB a.length m)) := rfl
  have e2 : shB op a (ofB a.length m) = shL (decide (op = 12)) (valB (ofB a.length m)) (fillB op a) a := rfl
  have e3 : shB op a (ofB a.length (m + n)) = shL (decide (op = 12)) (valB (ofB a.length (m + n))) (fillB op a) a := rfl
  rw [e1, hf, e2, e3, shL_shL, hv m (by omega), hv n (by omega), hv (m + n) h]

set_option maxRecDepth 100000 in
set_option maxHeartbeats 1600000 in
/-- number: the literals of a number. X: the box of the word; T: the circuit's. -/
theorem number_c (X T bb : Nat) (p : Option Addr) (W c q : Nat) (v2 v3 : Value) (w : World) (hX : w.cell? ⟨X, 0, none⟩ = some (.slice p W c)) (hT : w.cell? ⟨T, 0, none⟩ = some (.pointer (some ⟨bb, 0, none⟩))) (hXl : X < w.heap.size) (hTl : T < w.heap.size) (h64 : W ≤ 64) (hq130 : q < 130) :
    Calls Tryd.prog 17 #[.int .i64 (q : Int), .pointer (some ⟨X, 0, none⟩), .pointer (some ⟨T, 0, none⟩)] w fun e w' => ∃ v, e = .returned v ∧ Ints (New w w') w' v (yL W q false) ∧ Below w.heap.size w w' := by
  have HX := hid hX; have HT := hid hT
  clear hX hT
  go_enter Tryd.func17, Tryd.ntmps17
  go_wp2_with fail
  go_loopw [5, 6] (fun v i wr => ∃ (j : Nat), j ≤ W ∧ i = .int .i64 j ∧ wr.ownsRow w.heap.size 3 1 v j (((yL W q false).take j).map (Value.int .i64)) ∧ Below w.heap.size w wr) (fun _ i _ => W - (intOf i).toNat)
  case atStart => exact ⟨0, Nat.zero_le _, rfl, World.ownsRow_nil _ _ _ _, Below.refl _ _⟩
  case round =>
    obtain ⟨j, hj, rfl, hown, hbel⟩ := hrel
    obtain ⟨wo, rfl⟩ : ∃ wo : World, wo = wr := ⟨_, rfl⟩
    obtain ⟨po, co, rfl⟩ := own_slice hown
    have cX : wo.cell? ⟨X, 0, none⟩ = some (.slice p W c) := (hbel.cell (p := ⟨X, 0, none⟩) hXl).trans HX.out
    have cT : wo.cell? ⟨T, 0, none⟩ = some (.pointer (some ⟨bb, 0, none⟩)) := (hbel.cell (p := ⟨T, 0, none⟩) hTl).trans HT.out
    by_cases hlt : j < W
    · have hsn := yL_snoc W q false j hlt
      have HBE := hid hbel; have HO := hid hown
      have hws := hbel.size
      clear hown hbel
      have hyv : yLit W q false j = if decide (q / 2 ^ j % 2 = 1) = true then 1 else -1 := if_neg (by decide)
      obtain ⟨bk, hbk⟩ : ∃ bk, decide (q / 2 ^ j % 2 = 1) = bk := ⟨_, rfl⟩
      rw [hbk] at hyv
      have hbits : (j ≤ 62 ∧ (bits BinOp.and IntKind.i64 ((q : Int) / 2 ^ j) 1 == 1) = bk) ∨ (62 < j ∧ (bits BinOp.and IntKind.i64 ((q : Int) / 4611686018427387904) 1 == 1) = bk) := by
        by_cases h62 : j ≤ 62
        · exact .inl ⟨h62, by rw [← hbk]; exact bit_i64 q j hq130⟩
        · refine .inr ⟨by omega, ?_⟩
          have e0 : q / 2 ^ j = 0 := Nat.div_eq_of_lt (Nat.lt_of_lt_of_le hq130 (Nat.le_trans (by decide) (Nat.pow_le_pow_right (n := 2) (by omega) (show 8 ≤ j by omega))))
          have e : (q : Int) / 4611686018427387904 = 0 := by omega
          rw [← hbk, e0, e]; rfl
      clear hbk
      rcases hbits with ⟨h62, eb⟩ | ⟨h62, eb⟩
      · have hm : (j : Int) ≤ 62 := by omega
        cases bk
        · rw [hyv.trans (if_neg (by decide))] at hsn
          have HSN := hid hsn
          clear hsn hyv
          go_wp2_with (first | (go_at_call 18; refine (true_any bb _).mono ?_; rintro e w' ⟨rfl, rfl⟩) | ((try rw [wrap_m1]); (at_builtin; refine wpList_app _ rfl (.tmp 26) (.tmp 31) 23 rfl w.heap.size 3 (.int .i64 0) 8 Tryd.underlying23 info_int rfl (.slice po j co) j _ rfl (HO.out.alloc _) (some ⟨wo.heap.size, 0, none⟩) 1 1 [.int .i64 (-1)] rfl rfl (RowR.one _ _ _) (by simp [Value.oneCell']) (by omega) (by unfold maxLen; omega) (by rw [World.size_alloc]; omega) ?_; intro v' w6 hown4 hg4 _; have HO4 := hid hown4; have HG4 := hid hg4; clear hown4 hg4)))
          go_roundw
          case rel => exact ⟨j + 1, by omega, by go_num, by rw [HSN.out, List.map_append]; exact HO4.out, below_one HBE.out hws HG4.out (fun jj hjj => (HO.out.lt _ hjj).1)⟩
          case measure => (simp [intOf] <;> omega)
        · rw [hyv.trans (if_pos rfl)] at hsn
          have HSN := hid hsn
          clear hsn hyv
          go_wp2_with (first | (go_at_call 18; refine (true_any bb _).mono ?_; rintro e w' ⟨rfl, rfl⟩) | ((try rw [wrap_m1]); (at_builtin; refine wpList_app _ rfl (.tmp 20) (.tmp 24) 23 rfl w.heap.size 3 (.int .i64 0) 8 Tryd.underlying23 info_int rfl (.slice po j co) j _ rfl (HO.out.alloc _) (some ⟨wo.heap.size, 0, none⟩) 1 1 [.int .i64 (1)] rfl rfl (RowR.one _ _ _) (by simp [Value.oneCell']) (by omega) (by unfold maxLen; omega) (by rw [World.size_alloc]; omega) ?_; intro v' w6 hown4 hg4 _; have HO4 := hid hown4; have HG4 := hid hg4; clear hown4 hg4)))
          go_roundw
          case rel => exact ⟨j + 1, by omega, by go_num, by rw [HSN.out, List.map_append]; exact HO4.out, below_one HBE.out hws HG4.out (fun jj hjj => (HO.out.lt _ hjj).1)⟩
          case measure => (simp [intOf] <;> omega)
      · have hm : (62 : Int) < (j : Int) := by omega
        cases bk
        · rw [hyv.trans (if_neg (by decide))] at hsn
          have HSN := hid hsn
          clear hsn hyv
          go_wp2_with (first | (go_at_call 18; refine (true_any bb _).mono ?_; rintro e w' ⟨rfl, rfl⟩) | ((try rw [wrap_m1]); (at_builtin; refine wpList_app _ rfl (.tmp 26) (.tmp 31) 23 rfl w.heap.size 3 (.int .i64 0) 8 Tryd.underlying23 info_int rfl (.slice po j co) j _ rfl (HO.out.alloc _) (some ⟨wo.heap.size, 0, none⟩) 1 1 [.int .i64 (-1)] rfl rfl (RowR.one _ _ _) (by simp [Value.oneCell']) (by omega) (by unfold maxLen; omega) (by rw [World.size_alloc]; omega) ?_; intro v' w6 hown4 hg4 _; have HO4 := hid hown4; have HG4 := hid hg4; clear hown4 hg4)))
          go_roundw
          case rel => exact ⟨j + 1, by omega, by go_num, by rw [HSN.out, List.map_append]; exact HO4.out, below_one HBE.out hws HG4.out (fun jj hjj => (HO.out.lt _ hjj).1)⟩
          case measure => (simp [intOf] <;> omega)
        · rw [hyv.trans (if_pos rfl)] at hsn
          have HSN := hid hsn
          clear hsn hyv
          go_wp2_with (first | (go_at_call 18; refine (true_any bb _).mono ?_; rintro e w' ⟨rfl, rfl⟩) | ((try rw [wrap_m1]); (at_builtin; refine wpList_app _ rfl (.tmp 20) (.tmp 24) 23 rfl w.heap.size 3 (.int .i64 0) 8 Tryd.underlying23 info_int rfl (.slice po j co) j _ rfl (HO.out.alloc _) (some ⟨wo.heap.size, 0, none⟩) 1 1 [.int .i64 (1)] rfl rfl (RowR.one _ _ _) (by simp [Value.oneCell']) (by omega) (by unfold maxLen; omega) (by rw [World.size_alloc]; omega) ?_; intro v' w6 hown4 hg4 _; have HO4 := hid hown4; have HG4 := hid hg4; clear hown4 hg4)))
          go_roundw
          case rel => exact ⟨j + 1, by omega, by go_num, by rw [HSN.out, List.map_append]; exact HO4.out, below_one HBE.out hws HG4.out (fun jj hjj => (HO.out.lt _ hjj).1)⟩
          case measure => (simp [intOf] <;> omega)
    · obtain rfl : W = j := by omega
      have hown0 := hown
      rw [List.take_of_length_le (by rw [yL_len]; exact Nat.le_refl _)] at hown0
      have hfin : Ints (New w wo) wo (.slice po W co) (yL W q false) := Sl.of_owns hown0 (by omega) (fun k hk => hown0.lt k hk)
      have HF := hid (And.intro hfin hbel)
      clear hown hown0 hbel hfin
      go_wp2
      go_ret
      exact ⟨_, rfl, HF.out.1, HF.out.2⟩

end Go.Proofs.YtjcnhnifageikaaDoor
