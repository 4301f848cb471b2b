/-
  The walks of package adder: opposite, Sub, Any.
  The walk of package adder's Any.
-/
import Derived.Test.YtngimdbjcelkeaaSem
import Derived.Test.YtngimdbjcelkeaaLaw2
namespace Go.Proofs.Ytngimdbjcelkeaa
set_option linter.unusedSimpArgs false
set_option linter.unusedVariables false
open Go.RowKit

theorem take_set_succ {α : Type} (l : List α) (k : Nat) (x : α) (h : k < l.length) : (l.set k x).take (k + 1) = l.take k ++ [x] := by
  rw [List.take_succ_eq_append_getElem (by simpa using h), List.getElem_set_self, List.take_set_of_le (Nat.le_refl _)]

/-- A slice that lies in one block, which is written out. -/
theorem Ints.whole {R : Nat → Prop} {w : World} {b : Nat} {xs : List Int} {t : TypeId} {n : Nat} (hn : n = xs.length) (h : w.heap[b]? = some (.cells (xs.map (Value.int .i64)).toArray t (0, 0))) (hR : R b) (hl : xs.length ≤ 140737488355328) :
    Ints R w (.slice (some ⟨b, 0, none⟩) n n) xs := by subst hn; exact Ints.blk h hR hl

set_option maxHeartbeats 800000 in
theorem opposite_any (p : Option Addr) (n c : Nat) (xs : List Int) (R : Nat → Prop) (w : World) (hn : n = xs.length) (hm : xs.length ≤ 17592186044416) (hRl : ∀ k, R k → k < w.heap.size) (hr : RowR R w p (xs.map (Value.int .i64)))
    (hlit : ∀ x ∈ xs, -9223372036854775807 ≤ x ∧ x ≤ 9223372036854775807) :
    Calls Try.prog 93 #[.slice p n c] w fun e w' => ∃ v, e = .returned v ∧ Ints (New w w') w' v (xs.map (-·)) ∧ Below w.heap.size w w' := by
  have hmk : ∀ w : World, (Instr.makeSlice 23 (.int .i64 (n : Int)) (.int .i64 (n : Int))).run Try.prog w = .ok (.slice (some ⟨w.heap.size, 0, none⟩) n n) (w.alloc (.cells (Array.replicate n (.int .i64 0)) 3)) := fun w =>
    make_run (P := Try.prog) Try.underlying23 info_int rfl n (by omega) (by omega) w
  have HN := hid hn
  have hn2 : n ≤ 17592186044416 := by omega
  have h0 : (w.alloc (.cells (Array.replicate n (.int .i64 0)) 3)).heap[w.heap.size]? = some (.cells ((List.replicate n (0 : Int)).map (Value.int .i64)).toArray 3 (0, 0)) := by
    rw [heap_al, if_pos rfl]; simp
  have H0 := hid h0
  have HB0 := hid ((Below.refl w.heap.size w).alloc (Nat.le_refl _) (.cells (Array.replicate n (.int .i64 0)) 3))
  have HLIT := hid hlit; have HRL := hid hRl
  clear hn h0 hlit hRl hm
  go_enter Try.func93, Try.ntmps93
  go_wp2
  go_loopw [11] (fun i wr => ∃ (k : Nat) (cur : List Int), k ≤ n ∧ i = .int .i64 k ∧ wr.heap[w.heap.size]? = some (.cells (cur.map (Value.int .i64)).toArray 3 (0, 0)) ∧ cur.length = n ∧ cur.take k = (xs.take k).map (-·) ∧ Below w.heap.size w wr) (fun i _ => n - (intOf i).toNat)
  case atStart => exact ⟨0, List.replicate n 0, Nat.zero_le _, rfl, H0.out, by simp, by simp, HB0.out⟩
  case round =>
    obtain ⟨k, cur, hk, rfl, hb, hl, ht, hbel⟩ := hrel
    obtain ⟨wo, rfl⟩ : ∃ wo : World, wo = wr := ⟨_, rfl⟩
    have HB := hid hb; have HL := hid hl; have HT := hid ht
    by_cases hlt : k < n
    · have hkx : k < xs.length := by have := HN.out; omega
      obtain ⟨b, off, rfl, hRb, hc⟩ := hr.atI k hkx
      have hcell := (hbel.cell (p := ⟨b, off + k, none⟩) (HRL.out b hRb)).trans (hc k hkx)
      have hbx := HLIT.out _ (List.getElem_mem hkx)
      obtain ⟨y0, hs1⟩ : ∃ y0, wo.cell? ⟨w.heap.size, k, none⟩ = some (.int .i64 y0) := ⟨cur[k], by rw [cell_of_cells hb]; simp [hl, hlt]⟩
      have hs2 : wo.frozen? ⟨w.heap.size, k, none⟩ = false := frozen_of_cells hb
      have hset : (wo.setCell ⟨w.heap.size, k, none⟩ (.int .i64 (-xs[k]))).heap[w.heap.size]? = some (.cells ((cur.set k (-xs[k])).map (Value.int .i64)).toArray 3 (0, 0)) := by
        rw [heap_set_same hb]; congr 2; simp [List.map_set]
      have htk : (cur.set k (-xs[k])).take (k + 1) = (xs.take (k + 1)).map (-·) := by
        rw [take_set_succ _ _ _ (by omega), ht, List.take_succ_eq_append_getElem hkx, List.map_append]; rfl
      have hlen : (cur.set k (-xs[k])).length = n := by rw [List.length_set]; exact hl
      have hb2 : Below w.heap.size w (wo.setCell ⟨w.heap.size, k, none⟩ (.int .i64 (-xs[k]))) := hbel.setCell (by show w.heap.size ≤ w.heap.size; omega) _
      have HS := hid hset; have HTK := hid htk; have HLE := hid hlen; have HB2 := hid hb2
      clear hb hl ht hset htk hlen hb2 hc
      generalize hx : xs[k] = x at *
      have HX := hid hx; clear hx
      go_wp2
      go_roundw
      case rel => exact ⟨k + 1, _, by omega, by go_num, HS.out, HLE.out, HTK.out, HB2.out⟩
      case measure => simp [intOf]; omega
    · obtain rfl : k = n := by omega
      have HBE := hid hbel
      clear hb hl ht hbel
      go_wp2
      go_ret
      refine ⟨_, rfl, Ints.whole (xs := xs.map (-·)) (by rw [List.length_map]; exact HN.out) (b := w.heap.size) (t := 3) ?_ ⟨Nat.le_refl _, (Array.getElem?_eq_some_iff.1 HB.out).1⟩ (by rw [List.length_map, ← HN.out]; omega), HBE.out⟩
      have e : cur = xs.map (-·) := by
        have := HT.out
        rw [List.take_of_length_le (by have := HL.out; omega), List.take_of_length_le (by have := HN.out; omega)] at this
        exact this
      rw [← e]; exact HB.out

/-- The arguments of check, without a single literal: one word, two words. -/
theorem check1 (bb : Nat) (F : Form) (xs : List Int) (px : Option Addr) (cx : Nat) (w : World) (hB : IsB w bb F) (hx : Ints (Away bb w) w (.slice px xs.length cx) xs) (hlit : ∀ x ∈ xs, -9223372036854775807 ≤ x ∧ x ≤ 9223372036854775807) :
    Calls Try.prog 87 #[.pointer (some ⟨bb, 0, none⟩), .slice none 0 0, .slice (some ⟨w.heap.size, 0, none⟩) 1 1] (w.alloc (.cells #[.slice px xs.length cx] 23)) fun e w' =>
      e = .returned (.int .i64 (checkM F [] [xs])) ∧ IsB w' bb F ∧ FrB bb w w' := by
  have hbl : Below w.heap.size w (w.alloc (.cells #[.slice px xs.length cx] 23)) := (Below.refl _ _).alloc (Nat.le_refl _) _
  have hf1 := FrB.of_below hB hbl
  refine (check_any bb F [] [xs] [.slice px xs.length cx] none (some ⟨w.heap.size, 0, none⟩) 0 0 1 1 _ (hB.al _) rfl (by simp) (by unfold maxLen; omega) (by simp) RowR.nil rfl (by simp) (hB.rowNew _ _) rfl (fun i h h' => ?_) (fun l hl => ?_)).mono ?_
  · obtain rfl : i = 0 := by simp at h; exact h
    exact hx.fr hf1
  · simp only [List.mem_cons, List.not_mem_nil, or_false] at hl
    rcases hl with rfl | rfl
    · simp
    · exact hlit
  · rintro e w1 ⟨rfl, h1, h2⟩
    exact ⟨rfl, h1, hf1.trans h2⟩
theorem check2 (bb : Nat) (F : Form) (xs ys : List Int) (px py : Option Addr) (cx cy : Nat) (w : World) (hB : IsB w bb F) (hx : Ints (Away bb w) w (.slice px xs.length cx) xs) (hy : Ints (Away bb w) w (.slice py ys.length cy) ys)
    (hlit : ∀ l ∈ [xs, ys], ∀ x ∈ l, -9223372036854775807 ≤ x ∧ x ≤ 9223372036854775807) :
    Calls Try.prog 87 #[.pointer (some ⟨bb, 0, none⟩), .slice none 0 0, .slice (some ⟨w.heap.size, 0, none⟩) 2 2] (w.alloc (.cells #[.slice px xs.length cx, .slice py ys.length cy] 23)) fun e w' =>
      e = .returned (.int .i64 (checkM F [] [xs, ys])) ∧ IsB w' bb F ∧ FrB bb w w' := by
  have hbl : Below w.heap.size w (w.alloc (.cells #[.slice px xs.length cx, .slice py ys.length cy] 23)) := (Below.refl _ _).alloc (Nat.le_refl _) _
  have hf1 := FrB.of_below hB hbl
  refine (check_any bb F [] [xs, ys] [.slice px xs.length cx, .slice py ys.length cy] none (some ⟨w.heap.size, 0, none⟩) 0 0 2 2 _ (hB.al _) rfl (by simp) (by unfold maxLen; omega) (by simp) RowR.nil rfl (by simp) (hB.rowNew _ _) rfl (fun i h h' => ?_) (fun l hl => ?_)).mono ?_
  · have : i = 0 ∨ i = 1 := by simp at h; omega
    rcases this with rfl | rfl
    · exact hx.fr hf1
    · exact hy.fr hf1
  · rcases List.mem_cons.1 hl with rfl | hl
    · simp
    · exact hlit l hl
  · rintro e w1 ⟨rfl, h1, h2⟩
    exact ⟨rfl, h1, hf1.trans h2⟩

set_option maxHeartbeats 800000 in
theorem sub_any (bb : Nat) (F : Form) (xs ys : List Int) (vx vy : Value) (w : World) (hB : IsB w bb F) (hx : Ints (Away bb w) w vx xs) (hy : Ints (Away bb w) w vy ys)
    (hlit : ∀ l ∈ [xs, ys], ∀ x ∈ l, -9223372036854775807 ≤ x ∧ x ≤ 9223372036854775807) (hyl : ys.length ≤ 17592186044416) :
    Calls Try.prog 26 #[.pointer (some ⟨bb, 0, none⟩), vx, vy] w (WPost bb w (subM F xs ys)) := by
  obtain ⟨px, cx, rfl, hx1, hx2, hx3, hrx⟩ := hx.op
  obtain ⟨py, cy, rfl, hy1, hy2, hy3, hry⟩ := hy.op
  have hck := check2 bb F xs ys px py cx cy w hB hx hy hlit
  unfold subM
  by_cases hc0 : checkM F [] [xs, ys] = 0
  · rw [if_pos hc0]
    rw [hc0] at hck
    have hopp : ∀ w1, IsB w1 bb F → FrB bb w w1 → Calls Try.prog 93 #[.slice py ys.length cy] w1 fun e w2 => ∃ v, e = .returned v ∧ IsB w2 bb F ∧ FrB bb w w2 ∧ Ints (Away bb w2) w2 v (ys.map (-·)) := fun w1 hB1 hf1 =>
      (opposite_any py ys.length cy ys (Away bb w1) w1 rfl hyl (fun k hk => hk.size) (hry.fr hf1) (hlit ys (by simp))).mono fun e w2 ⟨v, he, hi, hb⟩ =>
        ⟨v, he, hB1.below hb, hf1.trans (FrB.of_below hB1 hb), hi.weaken fun k hk => hB1.away_new hb hk.1 hk.2⟩
    have hadd : ∀ w2 v, IsB w2 bb F → FrB bb w w2 → Ints (Away bb w2) w2 v (ys.map (-·)) → Calls Try.prog 25 #[.pointer (some ⟨bb, 0, none⟩), .slice px xs.length cx, v, .int .i64 1] w2 (WPost bb w (addM F xs (ys.map (-·)) 1)) := fun w2 v hB2 hf2 hv =>
      (add_any bb F xs (ys.map (-·)) 1 (.slice px xs.length cx) v w2 hB2 (hx.fr hf2) hv (fun l hl x hx' => by
        simp only [List.mem_cons, List.not_mem_nil, or_false] at hl
        rcases hl with rfl | rfl | rfl
        · simp at hx'; omega
        · exact hlit l (by simp) x hx'
        · obtain ⟨z, hz, rfl⟩ := List.mem_map.1 hx'
          have := hlit ys (by simp) z hz; omega)).mono fun e w3 ⟨u, h1, h2, h3, h4⟩ => ⟨u, h1, h2, h3, hf2.trans h4⟩
    generalize addM F xs (ys.map (-·)) 1 = r at *
    generalize ys.map (-·) = ns at *
    have HCK := hid hck; have HO := hid hopp; have HA := hid hadd
    clear hck hopp hadd hc0 hrx hry hx hy hB hlit
    go_enter Try.func26, Try.ntmps26
    go_wp2_with (first
      | (go_at_call 87; refine HCK.out.mono ?_; rintro e w1 ⟨rfl, hB1, hf1⟩)
      | (go_at_call 93; refine (HO.out _ hB1 hf1).mono ?_; rintro e w2 ⟨v, rfl, hB2, hf2, hv⟩)
      | (go_at_call 31; refine (true_any _ _).mono ?_; rintro e w' ⟨rfl, rfl⟩)
      | (go_at_call 25; refine (HA.out _ _ hB2 hf2 hv).mono ?_; rintro e w3 ⟨u, rfl, hu1, hu2, hu3⟩))
    go_ret2
    exact ⟨u, rfl, hu1, hu2, hu3⟩
  · rw [if_neg hc0]
    have hd : (checkM F [] [xs, ys] != 0) = true := by simp [hc0]
    generalize checkM F [] [xs, ys] = er at *
    have HCK := hid hck
    clear hck hc0 hrx hry hx hy hB hlit
    go_enter Try.func26, Try.ntmps26
    go_wp2_with (go_at_call 87; refine HCK.out.mono ?_; rintro e w1 ⟨rfl, hB1, hf1⟩)
    go_ret2
    exact ⟨_, rfl, Sl.nil, hB1, hf1⟩

end Go.Proofs.Ytngimdbjcelkeaa

namespace Go.Proofs.Ytngimdbjcelkeaa
set_option linter.unusedSimpArgs false
set_option linter.unusedVariables false
open Go.RowKit

theorem anStep_bd (st : Int × MS) (x : Int) (hs : st.2.1.vars ≤ 1048576) (h1 : Bd st.1) (hx : Bd x) : (anStep st x).2.1.vars ≤ 1048576 ∧ Bd (anStep st x).1 :=
  ⟨mkM_vars hs (fun F hF => orM_vars F _ _ hF), mkM_bd (orM_bd _ _ _ hs h1 hx)⟩
theorem anF_ok (F : Form) (l : List Int) (hF : F.vars ≤ 1048576) (hl : ∀ x ∈ l, Bd x) : ∀ st : Int × MS, st.2.1.vars ≤ 1048576 → Bd st.1 → (l.foldl anStep st).2.1.vars ≤ 1048576 ∧ Bd (l.foldl anStep st).1 := by
  induction l with
  | nil => intro st h1 h2; exact ⟨h1, h2⟩
  | cons x l ih =>
    intro st h1 h2
    obtain ⟨a, b⟩ := anStep_bd st x h1 h2 (hl x (by simp))
    exact ih (fun y hy => hl y (by simp [hy])) _ a b

theorem litM_eq (x : Int) (s : MS) : litM x s = ((if s.2 = 0 then x else 0), s.2, s.1) := by
  unfold litM
  split
  · rename_i h; rw [h]
  · rfl
theorem check_one {F : Form} {xs : List Int} (h : checkM F [] [xs] = 0) : 1 ≤ xs.length ∧ xs.length ≤ 64 ∧ hasAll F.vars xs = true := by
  obtain ⟨h1, h2⟩ := check_zero h
  exact ⟨(h1 xs (by simp)).1, (h1 xs (by simp)).2.1, h2 xs (by simp)⟩

set_option maxHeartbeats 1600000 in
theorem any_any (bb : Nat) (F : Form) (xs : List Int) (vx : Value) (w : World) (hB : IsB w bb F) (hx : Ints (Away bb w) w vx xs)
    (hlit : ∀ x ∈ xs, -9223372036854775807 ≤ x ∧ x ≤ 9223372036854775807) :
    Calls Try.prog 44 #[.pointer (some ⟨bb, 0, none⟩), vx] w (GatePost bb w (anyM F xs)) := by
  obtain ⟨px, cx, rfl, hx1, hx2, hx3, hrx⟩ := hx.op
  have hck := check1 bb F xs px cx w hB hx hlit
  have hBl := hB.lt
  unfold anyM
  by_cases hc0 : checkM F [] [xs] = 0
  · rw [if_pos hc0]
    rw [hc0] at hck
    obtain ⟨hl1, hl64, hkx⟩ := check_one hc0
    have hv := hB.vars
    have hbx := hasAll_bd hv hkx
    have hok := fun k => anF_ok F (xs.take k) hv (fun x hx => hbx x (List.mem_of_mem_take hx)) (-1, (F, 0)) hv (by unfold Bd; omega)
    have hM0 : ∀ w1, IsB w1 bb F → FrB bb w w1 → IsM (w1.alloc (.cells #[.pointer (some ⟨bb, 0, none⟩), .int .i64 0] 129)) w1.heap.size bb (F, 0) ∧ FrB bb w (w1.alloc (.cells #[.pointer (some ⟨bb, 0, none⟩), .int .i64 0] 129)) ∧
        RowR (AwayM w1.heap.size bb (w1.alloc (.cells #[.pointer (some ⟨bb, 0, none⟩), .int .i64 0] 129))) (w1.alloc (.cells #[.pointer (some ⟨bb, 0, none⟩), .int .i64 0] 129)) px (xs.map (Value.int .i64)) := fun w1 hB1 hf1 => by
      have hb : Below w1.heap.size w1 (w1.alloc (.cells #[.pointer (some ⟨bb, 0, none⟩), .int .i64 0] 129)) := (Below.refl _ _).alloc (Nat.le_refl _) _
      have hf := hf1.trans (FrB.of_below hB1 hb)
      refine ⟨⟨by rw [heap_al, if_pos rfl], hB1.away_new hb (Nat.le_refl _) (by simp), hB1.below hb⟩, hf, hrx.keep fun k hk => ⟨⟨(hf.keep k hk).1, ?_⟩, (hf.keep k hk).2⟩⟩
      have := hk.size; have := hf1.size; omega
    have HCK := hid hck; have HM0 := hid hM0; have HOK := hid hok; have HBX := hid hbx
    clear hck hM0 hok hbx hc0 hrx hx hB hlit hkx
    go_enter Try.func44, Try.ntmps44
    go_wp2_with (first
      | (go_at_call 87; refine HCK.out.mono ?_; rintro e w1 ⟨rfl, hB1, hf1⟩; have HB1 := hid hB1; have HF1 := hid hf1; clear hB1 hf1)
      | (go_at_call 31; refine (true_any _ _).mono ?_; rintro e w' ⟨rfl, rfl⟩))
    obtain ⟨hM, hfr, hrow⟩ := HM0.out _ HB1.out HF1.out
    have hws : w.heap.size ≤ w1.heap.size := HF1.out.size
    generalize hmb : w1.heap.size = mb at *
    have HMB := hid hmb; clear hmb
    generalize w1.alloc _ = w2 at *
    have HM := hid hM; have HFR := hid hfr; have HROW := hid hrow
    clear hM hfr hrow HB1 HF1 HM0
    go_loopw [8, 26] (fun v i wr => ∃ (k : Nat), k ≤ xs.length ∧ i = .int .i64 k ∧ v = .int .i64 ((xs.take k).foldl anStep (-1, (F, 0))).1 ∧ IsM wr mb bb ((xs.take k).foldl anStep (-1, (F, 0))).2 ∧ FrM mb bb w2 wr) (fun _ i _ => xs.length - (intOf i).toNat)
    case atStart => exact ⟨0, Nat.zero_le _, rfl, rfl, HM.out, Fr.refl _ _⟩
    case round =>
      obtain ⟨k, hk, rfl, rfl, hM, hfr⟩ := hrel
      obtain ⟨wo, rfl⟩ : ∃ wo : World, wo = wr := ⟨_, rfl⟩
      by_cases hlt : k < xs.length
      · obtain ⟨b, off, rfl, hRb, hc⟩ := (HROW.out.fr hfr).atI k hlt
        have hcell := hc k hlt
        have hst : (xs.take (k + 1)).foldl anStep (-1, (F, 0)) = anStep ((xs.take k).foldl anStep (-1, (F, 0))) xs[k] := by rw [List.take_succ_eq_append_getElem hlt, List.foldl_append]; rfl
        have hbk := HBX.out _ (List.getElem_mem hlt)
        have hok := (HOK.out k).2
        have hcall := mor_any mb bb _ _ xs[k] wo hM hok hbk
        have HST := hid hst; have HFR2 := hid hfr
        clear hst hM hc hok hfr
        generalize xs[k] = x at *
        generalize (xs.take k).foldl anStep (-1, (F, 0)) = st at *
        have e : anStep st x = mkM (fun F => orM F st.1 x) st.2 := rfl
        rw [e] at HST
        clear e
        generalize mkM (fun F => orM F st.1 x) st.2 = r at *
        have HC := hid hcall; clear hcall
        go_wp2_with (go_at_call 96; refine HC.out.mono ?_; rintro e w3 ⟨rfl, hM3, hf3⟩; have HM3 := hid hM3; have HF3 := hid hf3; clear hM3 hf3)
        go_roundw
        case rel => exact ⟨k + 1, by omega, by go_num, by rw [HST.out], by rw [HST.out]; exact HM3.out, HFR2.out.trans HF3.out⟩
        case measure => simp [intOf]; omega
      · obtain rfl : k = xs.length := by omega
        rw [List.take_length] at hM ⊢
        have c1 := hM.cells.2.1
        generalize (xs.foldl anStep (-1, (F, 0))) = st at *
        have hone := one_any mb st.2.2 st.1 wo c1
        have hlm := litM_eq st.1 st.2
        generalize (if st.2.2 = 0 then st.1 else 0) = q at *
        have HLM := hid hlm; clear hlm
        have hMl := hM.away.size
        have hfB : ∀ w3, Below wo.heap.size wo w3 → IsB w3 bb st.2.1 ∧ FrB bb w w3 := fun w3 hb => by
          refine ⟨hM.b.below hb, ?_⟩
          have h1 := HFR.out
          have h2 : FrB bb wo w3 := FrB.of_below hM.b hb
          refine ⟨h2.os.trans (hfr.os.trans h1.os), h2.tape.trans (hfr.tape.trans h1.tape), h2.output.trans (hfr.output.trans h1.output), Nat.le_trans h1.size (Nat.le_trans hfr.size h2.size), fun j hj => ?_⟩
          obtain ⟨a1, a2⟩ := h1.keep j hj
          obtain ⟨b1, b2⟩ := hfr.keep j ⟨a1, by have := hj.size; omega⟩
          obtain ⟨c1, c2⟩ := h2.keep j b1.1
          exact ⟨c1, c2.trans (b2.trans a2)⟩
        have HONE := hid hone; have HFB := hid hfB
        clear hone hfB hM hfr c1
        go_wp2_with (go_at_call 95; refine HONE.out.mono ?_; rintro e w3 ⟨rfl, hb3⟩; have HB3 := hid hb3; clear hb3)
        go_ret2
        rw [HLM.out]
        exact ⟨rfl, HFB.out _ HB3.out⟩
  · rw [if_neg hc0]
    have hd : (checkM F [] [xs] != 0) = true := by simp [hc0]
    generalize checkM F [] [xs] = er at *
    have HCK := hid hck
    clear hck hc0 hrx hx hB hlit
    go_enter Try.func44, Try.ntmps44
    go_wp2_with (go_at_call 87; refine HCK.out.mono ?_; rintro e w1 ⟨rfl, hB1, hf1⟩)
    go_ret2
    exact ⟨rfl, hB1, hf1⟩

end Go.Proofs.Ytngimdbjcelkeaa
