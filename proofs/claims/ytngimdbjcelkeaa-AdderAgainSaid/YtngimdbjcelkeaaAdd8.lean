/-
  The walk of package adder's Any.
-/
import Derived.Test.YtngimdbjcelkeaaAdd7
namespace Go.Proofs.Ytngimdbjcelkeaa
set_option linter.unusedSimpArgs false
set_option linter.unusedVariables false
open Go.RowKit

theorem anStep_bd (st : Int × MS) (x : Int) (hs : st.2.1.vars ≤ 1048576) (h1 : Bd st.1) (hx : Bd x) : (anStep st x).2.1.vars ≤ 1048576 ∧ Bd (anStep st x).1 :=
  ⟨mkM_vars hs (fun F hF => orM_vars F _ _ hF), mkM_bd (orM_bd _ _ _ hs h1 hx)⟩
theorem anF_ok (F : Form) (l : List Int) (hF : F.vars ≤ 1048576) (hl : ∀ x ∈ l, Bd x) : ∀ st : Int × MS, st.2.1.vars ≤ 1048576 → Bd st.1 → (l.foldl anStep st).2.1.vars ≤ 1048576 ∧ Bd (l.foldl anStep st).1 := by
  induction l with
  | nil => intro st h1 h2; exact ⟨h1, h2⟩
  | cons x l ih =>
    intro st h1 h2
    obtain ⟨a, b⟩ := anStep_bd st x h1 h2 (hl x (by simp))
    exact ih (fun y hy => hl y (by simp [hy])) _ a b

theorem litM_eq (x : Int) (s : MS) : litM x s = ((if s.2 = 0 then x else 0), s.2, s.1) := by
  unfold litM
  split
  · rename_i h; rw [h]
  · rfl
theorem check_one {F : Form} {xs : List Int} (h : checkM F [] [xs] = 0) : 1 ≤ xs.length ∧ xs.length ≤ 64 ∧ hasAll F.vars xs = true := by
  obtain ⟨h1, h2⟩ := check_zero h
  exact ⟨(h1 xs (by simp)).1, (h1 xs (by simp)).2.1, h2 xs (by simp)⟩

set_option maxHeartbeats 1600000 in
theorem any_any (bb : Nat) (F : Form) (xs : List Int) (vx : Value) (w : World) (hB : IsB w bb F) (hx : Ints (Away bb w) w vx xs)
    (hlit : ∀ x ∈ xs, -9223372036854775807 ≤ x ∧ x ≤ 9223372036854775807) :
    Calls Try.prog 44 #[.pointer (some ⟨bb, 0, none⟩), vx] w (GatePost bb w (anyM F xs)) := by
  obtain ⟨px, cx, rfl, hx1, hx2, hx3, hrx⟩ := hx.op
  have hck := check1 bb F xs px cx w hB hx hlit
  have hBl := hB.lt
  unfold anyM
  by_cases hc0 : checkM F [] [xs] = 0
  · rw [if_pos hc0]
    rw [hc0] at hck
    obtain ⟨hl1, hl64, hkx⟩ := check_one hc0
    have hv := hB.vars
    have hbx := hasAll_bd hv hkx
    have hok := fun k => anF_ok F (xs.take k) hv (fun x hx => hbx x (List.mem_of_mem_take hx)) (-1, (F, 0)) hv (by unfold Bd; omega)
    have hM0 : ∀ w1, IsB w1 bb F → FrB bb w w1 → IsM (w1.alloc (.cells #[.pointer (some ⟨bb, 0, none⟩), .int .i64 0] 129)) w1.heap.size bb (F, 0) ∧ FrB bb w (w1.alloc (.cells #[.pointer (some ⟨bb, 0, none⟩), .int .i64 0] 129)) ∧
        RowR (AwayM w1.heap.size bb (w1.alloc (.cells #[.pointer (some ⟨bb, 0, none⟩), .int .i64 0] 129))) (w1.alloc (.cells #[.pointer (some ⟨bb, 0, none⟩), .int .i64 0] 129)) px (xs.map (Value.int .i64)) := fun w1 hB1 hf1 => by
      have hb : Below w1.heap.size w1 (w1.alloc (.cells #[.pointer (some ⟨bb, 0, none⟩), .int .i64 0] 129)) := (Below.refl _ _).alloc (Nat.le_refl _) _
      have hf := hf1.trans (FrB.of_below hB1 hb)
      refine ⟨⟨by rw [heap_al, if_pos rfl], hB1.away_new hb (Nat.le_refl _) (by simp), hB1.below hb⟩, hf, hrx.keep fun k hk => ⟨⟨(hf.keep k hk).1, ?_⟩, (hf.keep k hk).2⟩⟩
      have := hk.size; have := hf1.size; omega
    have HCK := hid hck; have HM0 := hid hM0; have HOK := hid hok; have HBX := hid hbx
    clear hck hM0 hok hbx hc0 hrx hx hB hlit hkx
    go_enter Try.func44, Try.ntmps44
    go_wp2_with (first
      | (go_at_call 87; refine HCK.out.mono ?_; rintro e w1 ⟨rfl, hB1, hf1⟩; have HB1 := hid hB1; have HF1 := hid hf1; clear hB1 hf1)
      | (go_at_call 31; refine (true_any _ _).mono ?_; rintro e w' ⟨rfl, rfl⟩))
    obtain ⟨hM, hfr, hrow⟩ := HM0.out _ HB1.out HF1.out
    have hws : w.heap.size ≤ w1.heap.size := HF1.out.size
    generalize hmb : w1.heap.size = mb at *
    have HMB := hid hmb; clear hmb
    generalize w1.alloc _ = w2 at *
    have HM := hid hM; have HFR := hid hfr; have HROW := hid hrow
    clear hM hfr hrow HB1 HF1 HM0
    go_loopw [8, 26] (fun v i wr => ∃ (k : Nat), k ≤ xs.length ∧ i = .int .i64 k ∧ v = .int .i64 ((xs.take k).foldl anStep (-1, (F, 0))).1 ∧ IsM wr mb bb ((xs.take k).foldl anStep (-1, (F, 0))).2 ∧ FrM mb bb w2 wr) (fun _ i _ => xs.length - (intOf i).toNat)
    case atStart => exact ⟨0, Nat.zero_le _, rfl, rfl, HM.out, Fr.refl _ _⟩
    case round =>
      obtain ⟨k, hk, rfl, rfl, hM, hfr⟩ := hrel
      obtain ⟨wo, rfl⟩ : ∃ wo : World, wo = wr := ⟨_, rfl⟩
      by_cases hlt : k < xs.length
      · obtain ⟨b, off, rfl, hRb, hc⟩ := (HROW.out.fr hfr).atI k hlt
        have hcell := hc k hlt
        have hst : (xs.take (k + 1)).foldl anStep (-1, (F, 0)) = anStep ((xs.take k).foldl anStep (-1, (F, 0))) xs[k] := by rw [List.take_succ_eq_append_getElem hlt, List.foldl_append]; rfl
        have hbk := HBX.out _ (List.getElem_mem hlt)
        have hok := (HOK.out k).2
        have hcall := mor_any mb bb _ _ xs[k] wo hM hok hbk
        have HST := hid hst; have HFR2 := hid hfr
        clear hst hM hc hok hfr
        generalize xs[k] = x at *
        generalize (xs.take k).foldl anStep (-1, (F, 0)) = st at *
        have e : anStep st x = mkM (fun F => orM F st.1 x) st.2 := rfl
        rw [e] at HST
        clear e
        generalize mkM (fun F => orM F st.1 x) st.2 = r at *
        have HC := hid hcall; clear hcall
        go_wp2_with (go_at_call 96; refine HC.out.mono ?_; rintro e w3 ⟨rfl, hM3, hf3⟩; have HM3 := hid hM3; have HF3 := hid hf3; clear hM3 hf3)
        go_roundw
        case rel => exact ⟨k + 1, by omega, by go_num, by rw [HST.out], by rw [HST.out]; exact HM3.out, HFR2.out.trans HF3.out⟩
        case measure => simp [intOf]; omega
      · obtain rfl : k = xs.length := by omega
        rw [List.take_length] at hM ⊢
        have c1 := hM.cells.2.1
        generalize (xs.foldl anStep (-1, (F, 0))) = st at *
        have hone := one_any mb st.2.2 st.1 wo c1
        have hlm := litM_eq st.1 st.2
        generalize (if st.2.2 = 0 then st.1 else 0) = q at *
        have HLM := hid hlm; clear hlm
        have hMl := hM.away.size
        have hfB : ∀ w3, Below wo.heap.size wo w3 → IsB w3 bb st.2.1 ∧ FrB bb w w3 := fun w3 hb => by
          refine ⟨hM.b.below hb, ?_⟩
          have h1 := HFR.out
          have h2 : FrB bb wo w3 := FrB.of_below hM.b hb
          refine ⟨h2.os.trans (hfr.os.trans h1.os), h2.tape.trans (hfr.tape.trans h1.tape), h2.output.trans (hfr.output.trans h1.output), Nat.le_trans h1.size (Nat.le_trans hfr.size h2.size), fun j hj => ?_⟩
          obtain ⟨a1, a2⟩ := h1.keep j hj
          obtain ⟨b1, b2⟩ := hfr.keep j ⟨a1, by have := hj.size; omega⟩
          obtain ⟨c1, c2⟩ := h2.keep j b1.1
          exact ⟨c1, c2.trans (b2.trans a2)⟩
        have HONE := hid hone; have HFB := hid hfB
        clear hone hfB hM hfr c1
        go_wp2_with (go_at_call 95; refine HONE.out.mono ?_; rintro e w3 ⟨rfl, hb3⟩; have HB3 := hid hb3; clear hb3)
        go_ret2
        rw [HLM.out]
        exact ⟨rfl, HFB.out _ HB3.out⟩
  · rw [if_neg hc0]
    have hd : (checkM F [] [xs] != 0) = true := by simp [hc0]
    generalize checkM F [] [xs] = er at *
    have HCK := hid hck
    clear hck hc0 hrx hx hB hlit
    go_enter Try.func44, Try.ntmps44
    go_wp2_with (go_at_call 87; refine HCK.out.mono ?_; rintro e w1 ⟨rfl, hB1, hf1⟩)
    go_ret2
    exact ⟨rfl, hB1, hf1⟩

end Go.Proofs.Ytngimdbjcelkeaa
