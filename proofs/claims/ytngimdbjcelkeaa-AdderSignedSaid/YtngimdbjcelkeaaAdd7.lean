/-
  The walks of package adder: opposite, Sub, Any.
-/
import Derived.Test.YtngimdbjcelkeaaSem
import Derived.Test.YtngimdbjcelkeaaLaw2
namespace Go.Proofs.Ytngimdbjcelkeaa
set_option linter.unusedSimpArgs false
set_option linter.unusedVariables false
open Go.RowKit

theorem take_set_succ {α : Type} (l : List α) (k : Nat) (x : α) (h : k < l.length) : (l.set k x).take (k + 1) = l.take k ++ [x] := by
  rw [List.take_succ_eq_append_getElem (by simpa using h), List.getElem_set_self, List.take_set_of_le (Nat.le_refl _)]

/-- A slice that lies in one block, which is written out. -/
theorem Ints.whole {R : Nat → Prop} {w : World} {b : Nat} {xs : List Int} {t : TypeId} {n : Nat} (hn : n = xs.length) (h : w.heap[b]? = some (.cells (xs.map (Value.int .i64)).toArray t (0, 0))) (hR : R b) (hl : xs.length ≤ 140737488355328) :
    Ints R w (.slice (some ⟨b, 0, none⟩) n n) xs := by subst hn; exact Ints.blk h hR hl

set_option maxHeartbeats 800000 in
theorem opposite_any (p : Option Addr) (n c : Nat) (xs : List Int) (R : Nat → Prop) (w : World) (hn : n = xs.length) (hm : xs.length ≤ 17592186044416) (hRl : ∀ k, R k → k < w.heap.size) (hr : RowR R w p (xs.map (Value.int .i64)))
    (hlit : ∀ x ∈ xs, -9223372036854775807 ≤ x ∧ x ≤ 9223372036854775807) :
    Calls Try.prog 93 #[.slice p n c] w fun e w' => ∃ v, e = .returned v ∧ Ints (New w w') w' v (xs.map (-·)) ∧ Below w.heap.size w w' := by
  have hmk : ∀ w : World, (Instr.makeSlice 23 (.int .i64 (n : Int)) (.int .i64 (n : Int))).run Try.prog w = .ok (.slice (some ⟨w.heap.size, 0, none⟩) n n) (w.alloc (.cells (Array.replicate n (.int .i64 0)) 3)) := fun w =>
    make_run (P := Try.prog) Try.underlying23 info_int rfl n (by omega) (by omega) w
  have HN := hid hn
  have hn2 : n ≤ 17592186044416 := by omega
  have h0 : (w.alloc (.cells (Array.replicate n (.int .i64 0)) 3)).heap[w.heap.size]? = some (.cells ((List.replicate n (0 : Int)).map (Value.int .i64)).toArray 3 (0, 0)) := by
    rw [heap_al, if_pos rfl]; simp
  have H0 := hid h0
  have HB0 := hid ((Below.refl w.heap.size w).alloc (Nat.le_refl _) (.cells (Array.replicate n (.int .i64 0)) 3))
  have HLIT := hid hlit; have HRL := hid hRl
  clear hn h0 hlit hRl hm
  go_enter Try.func93, Try.ntmps93
  go_wp2
  go_loopw [11] (fun i wr => ∃ (k : Nat) (cur : List Int), k ≤ n ∧ i = .int .i64 k ∧ wr.heap[w.heap.size]? = some (.cells (cur.map (Value.int .i64)).toArray 3 (0, 0)) ∧ cur.length = n ∧ cur.take k = (xs.take k).map (-·) ∧ Below w.heap.size w wr) (fun i _ => n - (intOf i).toNat)
  case atStart => exact ⟨0, List.replicate n 0, Nat.zero_le _, rfl, H0.out, by simp, by simp, HB0.out⟩
  case round =>
    obtain ⟨k, cur, hk, rfl, hb, hl, ht, hbel⟩ := hrel
    obtain ⟨wo, rfl⟩ : ∃ wo : World, wo = wr := ⟨_, rfl⟩
    have HB := hid hb; have HL := hid hl; have HT := hid ht
    by_cases hlt : k < n
    · have hkx : k < xs.length := by have := HN.out; omega
      obtain ⟨b, off, rfl, hRb, hc⟩ := hr.atI k hkx
      have hcell := (hbel.cell (p := ⟨b, off + k, none⟩) (HRL.out b hRb)).trans (hc k hkx)
      have hbx := HLIT.out _ (List.getElem_mem hkx)
      obtain ⟨y0, hs1⟩ : ∃ y0, wo.cell? ⟨w.heap.size, k, none⟩ = some (.int .i64 y0) := ⟨cur[k], by rw [cell_of_cells hb]; simp [hl, hlt]⟩
      have hs2 : wo.frozen? ⟨w.heap.size, k, none⟩ = false := frozen_of_cells hb
      have hset : (wo.setCell ⟨w.heap.size, k, none⟩ (.int .i64 (-xs[k]))).heap[w.heap.size]? = some (.cells ((cur.set k (-xs[k])).map (Value.int .i64)).toArray 3 (0, 0)) := by
        rw [heap_set_same hb]; congr 2; simp [List.map_set]
      have htk : (cur.set k (-xs[k])).take (k + 1) = (xs.take (k + 1)).map (-·) := by
        rw [take_set_succ _ _ _ (by omega), ht, List.take_succ_eq_append_getElem hkx, List.map_append]; rfl
      have hlen : (cur.set k (-xs[k])).length = n := by rw [List.length_set]; exact hl
      have hb2 : Below w.heap.size w (wo.setCell ⟨w.heap.size, k, none⟩ (.int .i64 (-xs[k]))) := hbel.setCell (by show w.heap.size ≤ w.heap.size; omega) _
      have HS := hid hset; have HTK := hid htk; have HLE := hid hlen; have HB2 := hid hb2
      clear hb hl ht hset htk hlen hb2 hc
      generalize hx : xs[k] = x at *
      have HX := hid hx; clear hx
      go_wp2
      go_roundw
      case rel => exact ⟨k + 1, _, by omega, by go_num, HS.out, HLE.out, HTK.out, HB2.out⟩
      case measure => simp [intOf]; omega
    · obtain rfl : k = n := by omega
      have HBE := hid hbel
      clear hb hl ht hbel
      go_wp2
      go_ret
      refine ⟨_, rfl, Ints.whole (xs := xs.map (-·)) (by rw [List.length_map]; exact HN.out) (b := w.heap.size) (t := 3) ?_ ⟨Nat.le_refl _, (Array.getElem?_eq_some_iff.1 HB.out).1⟩ (by rw [List.length_map, ← HN.out]; omega), HBE.out⟩
      have e : cur = xs.map (-·) := by
        have := HT.out
        rw [List.take_of_length_le (by have := HL.out; omega), List.take_of_length_le (by have := HN.out; omega)] at this
        exact this
      rw [← e]; exact HB.out

/-- The arguments of check, without a single literal: one word, two words. -/
theorem check1 (bb : Nat) (F : Form) (xs : List Int) (px : Option Addr) (cx : Nat) (w : World) (hB : IsB w bb F) (hx : Ints (Away bb w) w (.slice px xs.length cx) xs) (hlit : ∀ x ∈ xs, -9223372036854775807 ≤ x ∧ x ≤ 9223372036854775807) :
    Calls Try.prog 87 #[.pointer (some ⟨bb, 0, none⟩), .slice none 0 0, .slice (some ⟨w.heap.size, 0, none⟩) 1 1] (w.alloc (.cells #[.slice px xs.length cx] 23)) fun e w' =>
      e = .returned (.int .i64 (checkM F [] [xs])) ∧ IsB w' bb F ∧ FrB bb w w' := by
  have hbl : Below w.heap.size w (w.alloc (.cells #[.slice px xs.length cx] 23)) := (Below.refl _ _).alloc (Nat.le_refl _) _
  have hf1 := FrB.of_below hB hbl
  refine (check_any bb F [] [xs] [.slice px xs.length cx] none (some ⟨w.heap.size, 0, none⟩) 0 0 1 1 _ (hB.al _) rfl (by simp) (by unfold maxLen; omega) (by simp) RowR.nil rfl (by simp) (hB.rowNew _ _) rfl (fun i h h' => ?_) (fun l hl => ?_)).mono ?_
  · obtain rfl : i = 0 := by simp at h; exact h
    exact hx.fr hf1
  · simp only [List.mem_cons, List.not_mem_nil, or_false] at hl
    rcases hl with rfl | rfl
    · simp
    · exact hlit
  · rintro e w1 ⟨rfl, h1, h2⟩
    exact ⟨rfl, h1, hf1.trans h2⟩
theorem check2 (bb : Nat) (F : Form) (xs ys : List Int) (px py : Option Addr) (cx cy : Nat) (w : World) (hB : IsB w bb F) (hx : Ints (Away bb w) w (.slice px xs.length cx) xs) (hy : Ints (Away bb w) w (.slice py ys.length cy) ys)
    (hlit : ∀ l ∈ [xs, ys], ∀ x ∈ l, -9223372036854775807 ≤ x ∧ x ≤ 9223372036854775807) :
    Calls Try.prog 87 #[.pointer (some ⟨bb, 0, none⟩), .slice none 0 0, .slice (some ⟨w.heap.size, 0, none⟩) 2 2] (w.alloc (.cells #[.slice px xs.length cx, .slice py ys.length cy] 23)) fun e w' =>
      e = .returned (.int .i64 (checkM F [] [xs, ys])) ∧ IsB w' bb F ∧ FrB bb w w' := by
  have hbl : Below w.heap.size w (w.alloc (.cells #[.slice px xs.length cx, .slice py ys.length cy] 23)) := (Below.refl _ _).alloc (Nat.le_refl _) _
  have hf1 := FrB.of_below hB hbl
  refine (check_any bb F [] [xs, ys] [.slice px xs.length cx, .slice py ys.length cy] none (some ⟨w.heap.size, 0, none⟩) 0 0 2 2 _ (hB.al _) rfl (by simp) (by unfold maxLen; omega) (by simp) RowR.nil rfl (by simp) (hB.rowNew _ _) rfl (fun i h h' => ?_) (fun l hl => ?_)).mono ?_
  · have : i = 0 ∨ i = 1 := by simp at h; omega
    rcases this with rfl | rfl
    · exact hx.fr hf1
    · exact hy.fr hf1
  · rcases List.mem_cons.1 hl with rfl | hl
    · simp
    · exact hlit l hl
  · rintro e w1 ⟨rfl, h1, h2⟩
    exact ⟨rfl, h1, hf1.trans h2⟩

set_option maxHeartbeats 800000 in
theorem sub_any (bb : Nat) (F : Form) (xs ys : List Int) (vx vy : Value) (w : World) (hB : IsB w bb F) (hx : Ints (Away bb w) w vx xs) (hy : Ints (Away bb w) w vy ys)
    (hlit : ∀ l ∈ [xs, ys], ∀ x ∈ l, -9223372036854775807 ≤ x ∧ x ≤ 9223372036854775807) (hyl : ys.length ≤ 17592186044416) :
    Calls Try.prog 26 #[.pointer (some ⟨bb, 0, none⟩), vx, vy] w (WPost bb w (subM F xs ys)) := by
  obtain ⟨px, cx, rfl, hx1, hx2, hx3, hrx⟩ := hx.op
  obtain ⟨py, cy, rfl, hy1, hy2, hy3, hry⟩ := hy.op
  have hck := check2 bb F xs ys px py cx cy w hB hx hy hlit
  unfold subM
  by_cases hc0 : checkM F [] [xs, ys] = 0
  · rw [if_pos hc0]
    rw [hc0] at hck
    have hopp : ∀ w1, IsB w1 bb F → FrB bb w w1 → Calls Try.prog 93 #[.slice py ys.length cy] w1 fun e w2 => ∃ v, e = .returned v ∧ IsB w2 bb F ∧ FrB bb w w2 ∧ Ints (Away bb w2) w2 v (ys.map (-·)) := fun w1 hB1 hf1 =>
      (opposite_any py ys.length cy ys (Away bb w1) w1 rfl hyl (fun k hk => hk.size) (hry.fr hf1) (hlit ys (by simp))).mono fun e w2 ⟨v, he, hi, hb⟩ =>
        ⟨v, he, hB1.below hb, hf1.trans (FrB.of_below hB1 hb), hi.weaken fun k hk => hB1.away_new hb hk.1 hk.2⟩
    have hadd : ∀ w2 v, IsB w2 bb F → FrB bb w w2 → Ints (Away bb w2) w2 v (ys.map (-·)) → Calls Try.prog 25 #[.pointer (some ⟨bb, 0, none⟩), .slice px xs.length cx, v, .int .i64 1] w2 (WPost bb w (addM F xs (ys.map (-·)) 1)) := fun w2 v hB2 hf2 hv =>
      (add_any bb F xs (ys.map (-·)) 1 (.slice px xs.length cx) v w2 hB2 (hx.fr hf2) hv (fun l hl x hx' => by
        simp only [List.mem_cons, List.not_mem_nil, or_false] at hl
        rcases hl with rfl | rfl | rfl
        · simp at hx'; omega
        · exact hlit l (by simp) x hx'
        · obtain ⟨z, hz, rfl⟩ := List.mem_map.1 hx'
          have := hlit ys (by simp) z hz; omega)).mono fun e w3 ⟨u, h1, h2, h3, h4⟩ => ⟨u, h1, h2, h3, hf2.trans h4⟩
    generalize addM F xs (ys.map (-·)) 1 = r at *
    generalize ys.map (-·) = ns at *
    have HCK := hid hck; have HO := hid hopp; have HA := hid hadd
    clear hck hopp hadd hc0 hrx hry hx hy hB hlit
    go_enter Try.func26, Try.ntmps26
    go_wp2_with (first
      | (go_at_call 87; refine HCK.out.mono ?_; rintro e w1 ⟨rfl, hB1, hf1⟩)
      | (go_at_call 93; refine (HO.out _ hB1 hf1).mono ?_; rintro e w2 ⟨v, rfl, hB2, hf2, hv⟩)
      | (go_at_call 31; refine (true_any _ _).mono ?_; rintro e w' ⟨rfl, rfl⟩)
      | (go_at_call 25; refine (HA.out _ _ hB2 hf2 hv).mono ?_; rintro e w3 ⟨u, rfl, hu1, hu2, hu3⟩))
    go_ret2
    exact ⟨u, rfl, hu1, hu2, hu3⟩
  · rw [if_neg hc0]
    have hd : (checkM F [] [xs, ys] != 0) = true := by simp [hc0]
    generalize checkM F [] [xs, ys] = er at *
    have HCK := hid hck
    clear hck hc0 hrx hry hx hy hB hlit
    go_enter Try.func26, Try.ntmps26
    go_wp2_with (go_at_call 87; refine HCK.out.mono ?_; rintro e w1 ⟨rfl, hB1, hf1⟩)
    go_ret2
    exact ⟨_, rfl, Sl.nil, hB1, hf1⟩

end Go.Proofs.Ytngimdbjcelkeaa
