/-
  Package shift: up and down, walked; a map literal of functions, its stores and its look-up.
  The reference's Shift (layer 18), walked.
-/
import Derived.Test.YtjcnhnifageikaaDoorShP2
import Derived.Maps.Keyed
namespace Go.Proofs.YtjcnhnifageikaaDoor
set_option linter.unusedSimpArgs false
set_option linter.unusedVariables false
open Go.RowKit Go.Shelf
attribute [local go_sem] Oper.semAt_some


set_option maxHeartbeats 1600000 in
theorem up_c (S : Nat) (p : Option Addr) (m c : Nat) (ws : List Int) (f : Int) (q : Nat) (w : World) (R : Nat → Prop) (hR : ∀ j, R j → j < w.heap.size)
    (hs : w.heap[S]? = some (.cells #[.slice p m c, .int .i64 f] 72 (0, 0))) (hr : RowR R w p (ws.map (Value.int .i64))) (hm : ws.length = m) (h64 : m ≤ 64) (hq : q ≤ 64) :
    Calls Tryd.prog 30 #[.pointer (some ⟨S, 0, none⟩), .int .i64 q] w fun e w' => ∃ v, e = .returned v ∧ Ints (New w w') w' v (shL true q f ws) ∧ Below w.heap.size w w' := by
  have hSl : S < w.heap.size := (Array.getElem?_eq_some_iff.1 hs).1
  have hmk : ∀ w : World, (Instr.makeSlice 23 (.int .i64 (m : Int)) (.int .i64 (m : Int))).run Tryd.prog w = .ok (.slice (some ⟨w.heap.size, 0, none⟩) m m) (w.alloc (.cells (Array.replicate m (.int .i64 0)) 3)) := fun w =>
    make_run (P := Tryd.prog) Tryd.underlying23 info_int rfl m (by omega) (by omega) w
  have h0 : (w.alloc (.cells (Array.replicate m (.int .i64 0)) 3)).heap[w.heap.size]? = some (.cells ((List.replicate m (0 : Int)).map (Value.int .i64)).toArray 3 (0, 0)) := by
    rw [heap_al, if_pos rfl]; simp
  have H0 := hid h0
  have HB0 := hid ((Below.refl w.heap.size w).alloc (Nat.le_refl _) (.cells (Array.replicate m (.int .i64 0)) 3))
  have g0 : w.cell? ⟨S, 0, none⟩ = some (.slice p m c) := by rw [cell_of_cells hs]; rfl
  have HS := hid hs; have HR := hid hR; have HM := hid hm; have HRW := hid hr
  clear h0 hs hR hm hr
  go_enter Tryd.func30, Tryd.ntmps30
  go_wp2
  clear g0
  go_loopw [15] (fun i wr => ∃ (k : Nat) (cur : List Int), k ≤ m ∧ i = .int .i64 k ∧ wr.heap[w.heap.size]? = some (.cells (cur.map (Value.int .i64)).toArray 3 (0, 0)) ∧ cur.length = m ∧ cur.take k = (shL true q f ws).take k ∧ Below w.heap.size w wr) (fun i _ => m - (intOf i).toNat)
  case atStart => exact ⟨0, List.replicate m 0, Nat.zero_le _, rfl, H0.out, by simp, by simp, HB0.out⟩
  case round =>
    obtain ⟨k, cur, hk, rfl, hb, hl, ht, hbel⟩ := hrel
    obtain ⟨wo, rfl⟩ : ∃ wo : World, wo = wr := ⟨_, rfl⟩
    have HB := hid hb; have HL := hid hl; have HT := hid ht
    by_cases hlt : k < m
    · have hsS := (hbel.block S hSl).trans HS.out
      have g0 : wo.cell? ⟨S, 0, none⟩ = some (.slice p m c) := by rw [cell_of_cells hsS]; rfl
      have g1 : wo.cell? ⟨S, 1, none⟩ = some (.int .i64 f) := by rw [cell_of_cells hsS]; rfl
      have hne : w.heap.size ≠ S := by omega
      obtain ⟨y0, hs1⟩ : ∃ y0, wo.cell? ⟨w.heap.size, k, none⟩ = some (.int .i64 y0) := ⟨cur[k], by rw [cell_of_cells hb]; simp [hl, hlt]⟩
      have hs2 : wo.frozen? ⟨w.heap.size, k, none⟩ = false := frozen_of_cells hb
      have hset : (wo.setCell ⟨w.heap.size, k, none⟩ (.int .i64 f)).heap[w.heap.size]? = some (.cells ((cur.set k f).map (Value.int .i64)).toArray 3 (0, 0)) := by
        rw [heap_set_same hb]; congr 2; simp [List.map_set]
      have hb1 : Below w.heap.size w (wo.setCell ⟨w.heap.size, k, none⟩ (.int .i64 f)) := hbel.setCell (by show w.heap.size ≤ w.heap.size; omega) _
      have hlen : (cur.set k f).length = m := by rw [List.length_set]; exact hl
      have hsS1 := (hb1.block S hSl).trans HS.out
      have e0 : (wo.setCell ⟨w.heap.size, k, none⟩ (.int .i64 f)).cell? ⟨S, 0, none⟩ = some (.slice p m c) := by rw [cell_of_cells hsS1]; rfl
      have HSET := hid hset; have HB1 := hid hb1; have HLE := hid hlen
      clear hb hl ht hset hb1 hlen hbel hsS hsS1
      by_cases hqk : q ≤ k
      · have d1 : decide ((q : Int) ≤ (k : Int)) = true := by simp; omega
        obtain ⟨t, htq, htn⟩ : ∃ t : Nat, (k : Int) - (q : Int) = (t : Int) ∧ k - q = t := ⟨k - q, by omega, rfl⟩
        have hval : (if true = true then (if q ≤ k then ws.getD (k - q) f else f) else ws.getD (k + q) f) = ws.getD t f := by rw [if_pos rfl, if_pos hqk, htn]
        have htm : t < m := by omega
        have htw : t < ws.length := by have := HM.out; omega
        obtain ⟨b, off, rfl, hRb, hc⟩ := HRW.out.atI t htw
        have hcell := (HB1.out.cell (p := ⟨b, off + t, none⟩) (HR.out b hRb)).trans (hc t htw)
        have hgd : ws.getD t f = ws[t] := by rw [List.getD_eq_getElem?_getD, List.getElem?_eq_getElem htw, Option.getD_some]
        obtain ⟨y1, hs3⟩ : ∃ y1, (wo.setCell ⟨w.heap.size, k, none⟩ (.int .i64 f)).cell? ⟨w.heap.size, k, none⟩ = some (.int .i64 y1) := ⟨f, by rw [cell_of_cells HSET.out]; simp [HL.out, hlt]⟩
        have hs4 : (wo.setCell ⟨w.heap.size, k, none⟩ (.int .i64 f)).frozen? ⟨w.heap.size, k, none⟩ = false := frozen_of_cells HSET.out
        have hlast : ((wo.setCell ⟨w.heap.size, k, none⟩ (.int .i64 f)).setCell ⟨w.heap.size, k, none⟩ (.int .i64 ws[t])).heap[w.heap.size]? = some (.cells ((cur.set k ws[t]).map (Value.int .i64)).toArray 3 (0, 0)) := by
          rw [heap_set_same HSET.out]; congr 2; simp [List.map_set]
        have htk : (cur.set k ws[t]).take (k + 1) = (shL true q f ws).take (k + 1) := by
          rw [take_set_succ _ _ _ (by have := HL.out; omega), HT.out, List.take_succ_eq_append_getElem (l := shL true q f ws) (by rw [shL_len]; have := HM.out; omega), shL_get, hval, hgd]
        have hlen : (cur.set k ws[t]).length = m := by rw [List.length_set]; exact HL.out
        have hb2 : Below w.heap.size w ((wo.setCell ⟨w.heap.size, k, none⟩ (.int .i64 f)).setCell ⟨w.heap.size, k, none⟩ (.int .i64 ws[t])) := HB1.out.setCell (by show w.heap.size ≤ w.heap.size; omega) _
        have HA := hid hlast; have HTK := hid htk; have HLN := hid hlen; have HB2 := hid hb2
        clear hlast htk hlen hb2 hc hgd hval htn HSET HB1 HRW
        generalize hx : ws[t] = x at *
        have HX := hid hx; clear hx
        go_wp2
        go_roundw
        case rel => exact ⟨k + 1, _, by omega, by go_num, HA.out, HLN.out, HTK.out, HB2.out⟩
        case measure => simp [intOf]; omega
      · have d1 : decide ((q : Int) ≤ (k : Int)) = false := by simp; omega
        have hval : (if true = true then (if q ≤ k then ws.getD (k - q) f else f) else ws.getD (k + q) f) = f := by rw [if_pos rfl, if_neg hqk]
        have htk : (cur.set k f).take (k + 1) = (shL true q f ws).take (k + 1) := by
          rw [take_set_succ _ _ _ (by have := HL.out; omega), HT.out, List.take_succ_eq_append_getElem (l := shL true q f ws) (by rw [shL_len]; have := HM.out; omega), shL_get, hval]
        have HTK := hid htk
        clear htk hval
        go_wp2
        go_roundw
        case rel => exact ⟨k + 1, _, by omega, by go_num, HSET.out, HLE.out, HTK.out, HB1.out⟩
        case measure => simp [intOf]; omega
    · obtain rfl : k = m := by omega
      have HBE := hid hbel
      clear hb hl ht hbel
      go_wp2
      go_ret
      refine ⟨_, rfl, Ints.whole (xs := shL true q f ws) (by rw [shL_len]; exact HM.out.symm) (b := w.heap.size) (t := 3) ?_ ⟨Nat.le_refl _, (Array.getElem?_eq_some_iff.1 HB.out).1⟩ (by rw [shL_len, HM.out]; omega), HBE.out⟩
      have e : cur = shL true q f ws := by
        have := HT.out
        rw [List.take_of_length_le (by have := HL.out; omega), List.take_of_length_le (by rw [shL_len]; have := HM.out; omega)] at this
        exact this
      rw [← e]; exact HB.out

set_option maxHeartbeats 1600000 in
theorem down_c (S : Nat) (p : Option Addr) (m c : Nat) (ws : List Int) (f : Int) (q : Nat) (w : World) (R : Nat → Prop) (hR : ∀ j, R j → j < w.heap.size)
    (hs : w.heap[S]? = some (.cells #[.slice p m c, .int .i64 f] 72 (0, 0))) (hr : RowR R w p (ws.map (Value.int .i64))) (hm : ws.length = m) (h64 : m ≤ 64) (hq : q ≤ 64) :
    Calls Tryd.prog 31 #[.pointer (some ⟨S, 0, none⟩), .int .i64 q] w fun e w' => ∃ v, e = .returned v ∧ Ints (New w w') w' v (shL false q f ws) ∧ Below w.heap.size w w' := by
  have hSl : S < w.heap.size := (Array.getElem?_eq_some_iff.1 hs).1
  have hmk : ∀ w : World, (Instr.makeSlice 23 (.int .i64 (m : Int)) (.int .i64 (m : Int))).run Tryd.prog w = .ok (.slice (some ⟨w.heap.size, 0, none⟩) m m) (w.alloc (.cells (Array.replicate m (.int .i64 0)) 3)) := fun w =>
    make_run (P := Tryd.prog) Tryd.underlying23 info_int rfl m (by omega) (by omega) w
  have h0 : (w.alloc (.cells (Array.replicate m (.int .i64 0)) 3)).heap[w.heap.size]? = some (.cells ((List.replicate m (0 : Int)).map (Value.int .i64)).toArray 3 (0, 0)) := by
    rw [heap_al, if_pos rfl]; simp
  have H0 := hid h0
  have HB0 := hid ((Below.refl w.heap.size w).alloc (Nat.le_refl _) (.cells (Array.replicate m (.int .i64 0)) 3))
  have g0 : w.cell? ⟨S, 0, none⟩ = some (.slice p m c) := by rw [cell_of_cells hs]; rfl
  have HS := hid hs; have HR := hid hR; have HM := hid hm; have HRW := hid hr
  clear h0 hs hR hm hr
  go_enter Tryd.func31, Tryd.ntmps31
  go_wp2
  clear g0
  go_loopw [15] (fun i wr => ∃ (k : Nat) (cur : List Int), k ≤ m ∧ i = .int .i64 k ∧ wr.heap[w.heap.size]? = some (.cells (cur.map (Value.int .i64)).toArray 3 (0, 0)) ∧ cur.length = m ∧ cur.take k = (shL false q f ws).take k ∧ Below w.heap.size w wr) (fun i _ => m - (intOf i).toNat)
  case atStart => exact ⟨0, List.replicate m 0, Nat.zero_le _, rfl, H0.out, by simp, by simp, HB0.out⟩
  case round =>
    obtain ⟨k, cur, hk, rfl, hb, hl, ht, hbel⟩ := hrel
    obtain ⟨wo, rfl⟩ : ∃ wo : World, wo = wr := ⟨_, rfl⟩
    have HB := hid hb; have HL := hid hl; have HT := hid ht
    by_cases hlt : k < m
    · have hsS := (hbel.block S hSl).trans HS.out
      have g0 : wo.cell? ⟨S, 0, none⟩ = some (.slice p m c) := by rw [cell_of_cells hsS]; rfl
      have g1 : wo.cell? ⟨S, 1, none⟩ = some (.int .i64 f) := by rw [cell_of_cells hsS]; rfl
      have hne : w.heap.size ≠ S := by omega
      obtain ⟨y0, hs1⟩ : ∃ y0, wo.cell? ⟨w.heap.size, k, none⟩ = some (.int .i64 y0) := ⟨cur[k], by rw [cell_of_cells hb]; simp [hl, hlt]⟩
      have hs2 : wo.frozen? ⟨w.heap.size, k, none⟩ = false := frozen_of_cells hb
      have hset : (wo.setCell ⟨w.heap.size, k, none⟩ (.int .i64 f)).heap[w.heap.size]? = some (.cells ((cur.set k f).map (Value.int .i64)).toArray 3 (0, 0)) := by
        rw [heap_set_same hb]; congr 2; simp [List.map_set]
      have hb1 : Below w.heap.size w (wo.setCell ⟨w.heap.size, k, none⟩ (.int .i64 f)) := hbel.setCell (by show w.heap.size ≤ w.heap.size; omega) _
      have hlen : (cur.set k f).length = m := by rw [List.length_set]; exact hl
      have hsS1 := (hb1.block S hSl).trans HS.out
      have e0 : (wo.setCell ⟨w.heap.size, k, none⟩ (.int .i64 f)).cell? ⟨S, 0, none⟩ = some (.slice p m c) := by rw [cell_of_cells hsS1]; rfl
      have HSET := hid hset; have HB1 := hid hb1; have HLE := hid hlen
      clear hb hl ht hset hb1 hlen hbel hsS hsS1
      obtain ⟨t, htq, htn⟩ : ∃ t : Nat, (k : Int) + (q : Int) = (t : Int) ∧ k + q = t := ⟨k + q, by omega, rfl⟩
      by_cases htm : t < m
      · have d1 : decide ((t : Int) < (m : Int)) = true := by simp; omega
        have hval : (if false = true then (if q ≤ k then ws.getD (k - q) f else f) else ws.getD (k + q) f) = ws.getD t f := by rw [if_neg (by simp), htn]
        have htw : t < ws.length := by have := HM.out; omega
        obtain ⟨b, off, rfl, hRb, hc⟩ := HRW.out.atI t htw
        have hcell := (HB1.out.cell (p := ⟨b, off + t, none⟩) (HR.out b hRb)).trans (hc t htw)
        have hgd : ws.getD t f = ws[t] := by rw [List.getD_eq_getElem?_getD, List.getElem?_eq_getElem htw, Option.getD_some]
        obtain ⟨y1, hs3⟩ : ∃ y1, (wo.setCell ⟨w.heap.size, k, none⟩ (.int .i64 f)).cell? ⟨w.heap.size, k, none⟩ = some (.int .i64 y1) := ⟨f, by rw [cell_of_cells HSET.out]; simp [HL.out, hlt]⟩
        have hs4 : (wo.setCell ⟨w.heap.size, k, none⟩ (.int .i64 f)).frozen? ⟨w.heap.size, k, none⟩ = false := frozen_of_cells HSET.out
        have hlast : ((wo.setCell ⟨w.heap.size, k, none⟩ (.int .i64 f)).setCell ⟨w.heap.size, k, none⟩ (.int .i64 ws[t])).heap[w.heap.size]? = some (.cells ((cur.set k ws[t]).map (Value.int .i64)).toArray 3 (0, 0)) := by
          rw [heap_set_same HSET.out]; congr 2; simp [List.map_set]
        have htk : (cur.set k ws[t]).take (k + 1) = (shL false q f ws).take (k + 1) := by
          rw [take_set_succ _ _ _ (by have := HL.out; omega), HT.out, List.take_succ_eq_append_getElem (l := shL false q f ws) (by rw [shL_len]; have := HM.out; omega), shL_get, hval, hgd]
        have hlen : (cur.set k ws[t]).length = m := by rw [List.length_set]; exact HL.out
        have hb2 : Below w.heap.size w ((wo.setCell ⟨w.heap.size, k, none⟩ (.int .i64 f)).setCell ⟨w.heap.size, k, none⟩ (.int .i64 ws[t])) := HB1.out.setCell (by show w.heap.size ≤ w.heap.size; omega) _
        have HA := hid hlast; have HTK := hid htk; have HLN := hid hlen; have HB2 := hid hb2
        clear hlast htk hlen hb2 hc hgd hval htn HSET HB1 HRW
        generalize hx : ws[t] = x at *
        have HX := hid hx; clear hx
        go_wp2
        go_roundw
        case rel => exact ⟨k + 1, _, by omega, by go_num, HA.out, HLN.out, HTK.out, HB2.out⟩
        case measure => simp [intOf]; omega
      · have d1 : decide ((t : Int) < (m : Int)) = false := by simp; omega
        have hval : (if false = true then (if q ≤ k then ws.getD (k - q) f else f) else ws.getD (k + q) f) = f := by rw [if_neg (by simp), getD_out _ _ _ (by have := HM.out; omega)]
        have htk : (cur.set k f).take (k + 1) = (shL false q f ws).take (k + 1) := by
          rw [take_set_succ _ _ _ (by have := HL.out; omega), HT.out, List.take_succ_eq_append_getElem (l := shL false q f ws) (by rw [shL_len]; have := HM.out; omega), shL_get, hval]
        have HTK := hid htk
        clear htk hval
        go_wp2
        go_roundw
        case rel => exact ⟨k + 1, _, by omega, by go_num, HSET.out, HLE.out, HTK.out, HB1.out⟩
        case measure => simp [intOf]; omega
    · obtain rfl : k = m := by omega
      have HBE := hid hbel
      clear hb hl ht hbel
      go_wp2
      go_ret
      refine ⟨_, rfl, Ints.whole (xs := shL false q f ws) (by rw [shL_len]; exact HM.out.symm) (b := w.heap.size) (t := 3) ?_ ⟨Nat.le_refl _, (Array.getElem?_eq_some_iff.1 HB.out).1⟩ (by rw [shL_len, HM.out]; omega), HBE.out⟩
      have e : cur = shL false q f ws := by
        have := HT.out
        rw [List.take_of_length_le (by have := HL.out; omega), List.take_of_length_le (by rw [shL_len]; have := HM.out; omega)] at this
        exact this
      rw [← e]; exact HB.out

/-! ### a map literal -/
theorem u8_find {k : Int} : ∀ (l : List MapEntry) (i : Nat), (∀ x ∈ l, ∃ k', x.key = .int .u8 k' ∧ k' ≠ k) → Instr.findNow (.int .u8) (.int .u8 k) l i = some none
  | [], _, _ => rfl
  | x :: l, i, h => by
    obtain ⟨k', hk, hne⟩ := h x (by simp)
    have e : (k == k') = false := by rw [beq_eq_false_iff_ne]; exact fun e => hne e.symm
    unfold Instr.findNow
    rw [hk]
    simp only [Instr.sameNow, if_true, e]
    exact u8_find l (i + 1) fun y hy => h y (by simp [hy])

/-- 'insert' of a key that is not there yet. -/
theorem wpList_insert8 {P : Program} {w : World} {ops : Array Oper} {rest : List Oper} {o : Oper} {a : Act} {Q : Exit → Act → World → Prop}
    (hg : o.guard = none) (m v : Operand) (k : Int) (t : TypeId) (hop : o.op = Op.insert t m (.const (.int .u8 k)) v) (kt e : TypeId) (ht : P.underlying t = some (.map kt e)) (hkt : P.underlying kt = some (.int .u8)) (r : Nat) (es : Array MapEntry) (clk : Nat)
    (hm : a.eval m = .map (some r)) (val : Value) (hv : a.eval v = val) (hb : w.heap[r]? = some (.map es clk)) (hne : ∀ x ∈ es.toList, ∃ k', x.key = .int .u8 k' ∧ k' ≠ k)
    (hK : ∀ w', w'.heap[r]? = some (.map (es.push ⟨.int .u8 k, val, clk⟩) (clk + 1)) → w.grownBy w' (some r) → wpList P ops Q rest (a.put o.dst undef) w') :
    wpList P ops Q (o :: rest) a w := by
  refine wpList_plain hg fun K' hK' => ?_
  have hf := u8_find (k := k) es.toList 0 hne
  have hck : ∀ b, (Instr.checkKey b 10000 kt (.int .u8 k)).run P w = .ok () w := fun b => MapKept.run_checkKey hkt (show MapKept.IsKey (.int .u8) (.int .u8 k) from rfl) b 9999
  have hrun : (Instr.mapUpdate t (.map (some r)) (.int .u8 k) val).run P w = .ok () (ChangeMaps.setBlock w r (.map (es.push ⟨.int .u8 k, val, clk⟩) (clk + 1))) := by
    simp [Instr.mapUpdate, run_underlying ht, MapKept.run_getObj_map hb, hck, MapKept.run_findKey hkt hf, MapKept.run_setObj_map _ hb, Result.andThen, ChangeMaps.setBlock]
  have hx : a.eval (Operand.const (.int .u8 k)) = .int .u8 k := rfl
  unfold Oper.wp
  simp [execOp, hop, hm, hx, hv, hrun, Result.andThen]
  exact hK' _ _ (hK _ (ChangeMaps.heap_setBlock_same hb _) ⟨rfl, rfl, rfl, by simp [ChangeMaps.setBlock], fun i _ hi => ChangeMaps.heap_setBlock_other hb _ (fun e => hi (by rw [e]))⟩)

/-- A look-up that finds. -/
theorem wpList_lookup8 {P : Program} {w : World} {ops : Array Oper} {rest : List Oper} {o : Oper} {a : Act} {Q : Exit → Act → World → Prop}
    (hg : o.guard = none) (m x : Operand) (k : Int) (t : TypeId) (hop : o.op = Op.lookup t m x false) (kt e : TypeId) (ht : P.underlying t = some (.map kt e)) (hkt : P.underlying kt = some (.int .u8)) (r : Nat) (es : Array MapEntry) (clk : Nat)
    (hm : a.eval m = .map (some r)) (hb : w.heap[r]? = some (.map es clk)) (hx : a.eval x = .int .u8 k) (i : Nat) (v : Value) (hf : Instr.findNow (.int .u8) (.int .u8 k) es.toList 0 = some (some (i, v)))
    (hK : wpList P ops Q rest (a.put o.dst v) w) :
    wpList P ops Q (o :: rest) a w := by
  refine wpList_plain hg fun K' hK' => ?_
  have hck : ∀ b, (Instr.checkKey b 10000 kt (.int .u8 k)).run P w = .ok () w := fun b => MapKept.run_checkKey hkt (show MapKept.IsKey (.int .u8) (.int .u8 k) from rfl) b 9999
  have hrun : (Instr.lookup t (.map (some r)) (.int .u8 k) false).run P w = .ok v w := by
    simp [Instr.lookup, run_underlying ht, MapKept.run_getObj_map hb, hck, MapKept.run_findKey hkt hf, Result.andThen]
  unfold Oper.wp
  simp [execOp, hop, hm, hx, hrun, Result.andThen]
  exact hK' _ _ hK

end Go.Proofs.YtjcnhnifageikaaDoor

namespace Go.Proofs.YtjcnhnifageikaaDoor
set_option linter.unusedSimpArgs false
set_option linter.unusedVariables false
open Go.RowKit Go.Shelf
attribute [local go_sem] Oper.semAt_some

theorem shL_snoc {α : Type} (up : Bool) (q : Nat) (f : α) (a : List α) (j : Nat) (hj : j < a.length) : (shL up q f a).take (j + 1) = (shL up q f a).take j ++ [if up then (if q ≤ j then a.getD (j - q) f else f) else a.getD (j + q) f] := by
  rw [List.take_succ_eq_append_getElem (by rw [shL_len]; exact hj), shL_get]
theorem getD_in {α : Type} (f : α) (a : List α) (i : Nat) (h : i < a.length) : a.getD i f = a[i] := by
  rw [List.getD_eq_getElem?_getD, List.getElem?_eq_getElem h, Option.getD_some]

set_option maxRecDepth 100000 in
set_option maxHeartbeats 3200000 in
theorem refshift12_any (vx vy : Value) (a b : List Bool) (m : Nat) (R R' : Nat → Prop) (w : World) (ix : Bools R w vx a) (iy : Bools R' w vy b) (hR : ∀ k, R k → k < w.heap.size) (h1 : 1 ≤ m) (h64 : m ≤ 64) (la : a.length = m) (lb : b.length = m) :
    Calls Tryd.prog 12 #[.int .u8 12, vx, vy] w fun e w' => ∃ v, e = .returned v ∧ Bools (New w w') w' v (shB 12 a b) ∧ Below w.heap.size w w' := by
  have HV := hid (refvalue_any vy b R' w iy (by omega))
  obtain ⟨px, cx, rfl, _, _, hrx⟩ := ix.opn la
  obtain ⟨py, cy, rfl, _, _, _⟩ := iy.opn lb
  have hsh : shB 12 a b = shL true (min m (valB b)) (fillB 12 a) a := by
    unfold shB
    rw [← shL_min, la]; rfl
  have hv64 : valB b < 2 ^ 64 := Nat.lt_of_lt_of_le (valB_lt b) (Nat.pow_le_pow_right (by omega) (by omega))
  have HSH := hid hsh; have HRX := hid hrx; have HLA := hid la; have HR := hid hR
  have hlast : m - 1 < a.length := by omega
  clear hsh hrx la lb ix iy hR
  generalize valB b = v at *
  go_enter Tryd.func12, Tryd.ntmps12
  go_wp2_with fail
  (with_reducible refine HV.out.mono ?_)
  rintro e w' ⟨rfl, rfl⟩
  clear HV
  obtain ⟨q, hq⟩ : ∃ q, min m v = q := ⟨_, rfl⟩
  rw [hq] at HSH
  have HQM := hid (show q ≤ m by omega)
  have hvb : v < 18446744073709551616 := hv64
  clear hv64
  by_cases hvm : v < m
  · have d1 : decide ((v : Int) < (m : Int)) = true := by simp; omega
    obtain rfl : q = v := by omega
    clear hq
    have HQ := hid hvm
    go_wp2_with fail
    go_loopw [9, 10] (fun v i wr => ∃ (j : Nat), j ≤ m ∧ i = .int .i64 j ∧ wr.ownsRow w.heap.size 4 1 v j (((shL true q (fillB 12 a) a).take j).map Value.bool) ∧ Below w.heap.size w wr) (fun _ i _ => m - (intOf i).toNat)
    case atStart => exact ⟨0, Nat.zero_le _, rfl, World.ownsRow_nil _ _ _ _, Below.refl _ _⟩
    case round =>
      obtain ⟨j, hj, rfl, hown, hbel⟩ := hrel
      obtain ⟨wo, rfl⟩ : ∃ wo : World, wo = wr := ⟨_, rfl⟩
      obtain ⟨po, co, rfl⟩ := own_slice hown
      by_cases hlt : j < m
      · have hsn := shL_snoc true q (fillB 12 a) a j (by have := HLA.out; omega)
        have HBE := hid hbel; have HO := hid hown
        have hws := hbel.size
        have hqm := HQM.out
        clear hown hbel
        by_cases hqj : q ≤ j
        · obtain ⟨t, ht, htn⟩ : ∃ t : Nat, (j : Int) - (q : Int) = (t : Int) ∧ j - q = t := ⟨j - q, by omega, rfl⟩
          have htl : t < a.length := by have := HLA.out; omega
          have htm : t < m := by omega
          have d2 : decide ((t : Int) < (m : Int)) = true := by simp; omega
          rw [show (if true = true then (if q ≤ j then a.getD (j - q) (fillB 12 a) else fillB 12 a) else a.getD (j + q) (fillB 12 a)) = a[t] by rw [if_pos rfl, if_pos hqj, htn, getD_in _ _ _ htl]] at hsn
          obtain ⟨b1, o1, rfl, hR1, hcc1⟩ := HRX.out.atB (t) htl
          have e1 := (HBE.out.cell (p := ⟨b1, o1 + (t), none⟩) (HR.out b1 hR1)).trans (hcc1 (t) htl)
          generalize a[t] = bt at *
          have HSN := hid hsn
          clear hcc1 hR1 hsn
          clear htn
          go_wp2_with (at_builtin; refine wpList_app _ rfl (.tmp 49) (.tmp 54) 22 rfl w.heap.size 4 (.bool false) 1 Tryd.underlying22 info_bool rfl _ j _ rfl (HO.out.alloc _) (some ⟨wo.heap.size, 0, none⟩) 1 1 [.bool bt] rfl rfl (RowR.one _ _ _) (by simp [Value.oneCell']) (by omega) (by unfold maxLen; omega) (by rw [World.size_alloc]; omega) ?_; intro v' w6 hown4 hg4 _; have HO4 := hid hown4; have HG4 := hid hg4; clear hown4 hg4)
          go_roundw
          case rel => exact ⟨j + 1, by omega, by go_num, by rw [HSN.out, List.map_append]; exact HO4.out, below_one HBE.out hws HG4.out (fun j hj => (HO.out.lt _ hj).1)⟩
          case measure => (simp [intOf] <;> omega)
        · have hneg : ((0 : Int) ≤ (j : Int) - (q : Int)) = False := by simp; omega
          have d3 : decide ((0 : Int) ≤ (j : Int) - (q : Int)) = false := by simp; omega
          rw [show (if true = true then (if q ≤ j then a.getD (j - q) (fillB 12 a) else fillB 12 a) else a.getD (j + q) (fillB 12 a)) = false by rw [if_pos rfl, if_neg hqj]; rfl] at hsn
          have HSN := hid hsn
          clear hsn
          go_wp2_with (at_builtin; refine wpList_app _ rfl (.tmp 37) (.tmp 38) 22 rfl w.heap.size 4 (.bool false) 1 Tryd.underlying22 info_bool rfl _ j _ rfl (HO.out.alloc _) (some ⟨wo.heap.size, 0, none⟩) 1 1 [.bool false] rfl rfl (RowR.one _ _ _) (by simp [Value.oneCell']) (by omega) (by unfold maxLen; omega) (by rw [World.size_alloc]; omega) ?_; intro v' w6 hown4 hg4 _; have HO4 := hid hown4; have HG4 := hid hg4; clear hown4 hg4)
          go_roundw
          case rel => exact ⟨j + 1, by omega, by go_num, by rw [HSN.out, List.map_append]; exact HO4.out, below_one HBE.out hws HG4.out (fun j hj => (HO.out.lt _ hj).1)⟩
          case measure => (simp [intOf] <;> omega)
      · obtain rfl : j = m := by omega
        have hown0 := hown
        rw [List.take_of_length_le (by rw [shL_len, HLA.out]; exact Nat.le_refl _)] at hown0
        have hfin := bnew (w := w) hown0 (by omega) (Nat.le_refl _)
        have HF := hid (And.intro hfin hbel)
        clear hown hown0 hbel hfin
        go_wp2
        go_ret
        exact ⟨_, rfl, by rw [HSH.out]; exact HF.out.1, HF.out.2⟩

  · have d1 : decide ((v : Int) < (m : Int)) = false := by simp; omega
    obtain rfl : m = q := by omega
    have hmv : (m : Int) ≤ (v : Int) := by omega
    have hnv : ((v : Int) < (m : Int)) = False := by simp; omega
    clear hq
    go_wp2_with fail
    go_loopw [9, 10] (fun v i wr => ∃ (j : Nat), j ≤ m ∧ i = .int .i64 j ∧ wr.ownsRow w.heap.size 4 1 v j (((shL true m (fillB 12 a) a).take j).map Value.bool) ∧ Below w.heap.size w wr) (fun _ i _ => m - (intOf i).toNat)
    case atStart => exact ⟨0, Nat.zero_le _, rfl, World.ownsRow_nil _ _ _ _, Below.refl _ _⟩
    case round =>
      obtain ⟨j, hj, rfl, hown, hbel⟩ := hrel
      obtain ⟨wo, rfl⟩ : ∃ wo : World, wo = wr := ⟨_, rfl⟩
      obtain ⟨po, co, rfl⟩ := own_slice hown
      by_cases hlt : j < m
      · have hsn := shL_snoc true m (fillB 12 a) a j (by have := HLA.out; omega)
        have HBE := hid hbel; have HO := hid hown
        have hws := hbel.size
        have hqm := HQM.out
        clear hown hbel
        by_cases hqj : m ≤ j
        · exfalso; omega
        · have hneg : ((0 : Int) ≤ (j : Int) - (m : Int)) = False := by simp; omega
          have d3 : decide ((0 : Int) ≤ (j : Int) - (m : Int)) = false := by simp; omega
          rw [show (if true = true then (if m ≤ j then a.getD (j - m) (fillB 12 a) else fillB 12 a) else a.getD (j + m) (fillB 12 a)) = false by rw [if_pos rfl, if_neg hqj]; rfl] at hsn
          have HSN := hid hsn
          clear hsn
          go_wp2_with (at_builtin; refine wpList_app _ rfl (.tmp 37) (.tmp 38) 22 rfl w.heap.size 4 (.bool false) 1 Tryd.underlying22 info_bool rfl _ j _ rfl (HO.out.alloc _) (some ⟨wo.heap.size, 0, none⟩) 1 1 [.bool false] rfl rfl (RowR.one _ _ _) (by simp [Value.oneCell']) (by omega) (by unfold maxLen; omega) (by rw [World.size_alloc]; omega) ?_; intro v' w6 hown4 hg4 _; have HO4 := hid hown4; have HG4 := hid hg4; clear hown4 hg4)
          go_roundw
          case rel => exact ⟨j + 1, by omega, by go_num, by rw [HSN.out, List.map_append]; exact HO4.out, below_one HBE.out hws HG4.out (fun j hj => (HO.out.lt _ hj).1)⟩
          case measure => (simp [intOf] <;> omega)
      · obtain rfl : j = m := by omega
        have hown0 := hown
        rw [List.take_of_length_le (by rw [shL_len, HLA.out]; exact Nat.le_refl _)] at hown0
        have hfin := bnew (w := w) hown0 (by omega) (Nat.le_refl _)
        have HF := hid (And.intro hfin hbel)
        clear hown hown0 hbel hfin
        go_wp2
        go_ret
        exact ⟨_, rfl, by rw [HSH.out]; exact HF.out.1, HF.out.2⟩


set_option maxRecDepth 100000 in
set_option maxHeartbeats 3200000 in
theorem refshift13_any (vx vy : Value) (a b : List Bool) (m : Nat) (R R' : Nat → Prop) (w : World) (ix : Bools R w vx a) (iy : Bools R' w vy b) (hR : ∀ k, R k → k < w.heap.size) (h1 : 1 ≤ m) (h64 : m ≤ 64) (la : a.length = m) (lb : b.length = m) :
    Calls Tryd.prog 12 #[.int .u8 13, vx, vy] w fun e w' => ∃ v, e = .returned v ∧ Bools (New w w') w' v (shB 13 a b) ∧ Below w.heap.size w w' := by
  have HV := hid (refvalue_any vy b R' w iy (by omega))
  obtain ⟨px, cx, rfl, _, _, hrx⟩ := ix.opn la
  obtain ⟨py, cy, rfl, _, _, _⟩ := iy.opn lb
  have hsh : shB 13 a b = shL false (min m (valB b)) (fillB 13 a) a := by
    unfold shB
    rw [← shL_min, la]; rfl
  have hv64 : valB b < 2 ^ 64 := Nat.lt_of_lt_of_le (valB_lt b) (Nat.pow_le_pow_right (by omega) (by omega))
  have HSH := hid hsh; have HRX := hid hrx; have HLA := hid la; have HR := hid hR
  have hlast : m - 1 < a.length := by omega
  clear hsh hrx la lb ix iy hR
  generalize valB b = v at *
  go_enter Tryd.func12, Tryd.ntmps12
  go_wp2_with fail
  (with_reducible refine HV.out.mono ?_)
  rintro e w' ⟨rfl, rfl⟩
  clear HV
  obtain ⟨q, hq⟩ : ∃ q, min m v = q := ⟨_, rfl⟩
  rw [hq] at HSH
  have HQM := hid (show q ≤ m by omega)
  have hvb : v < 18446744073709551616 := hv64
  clear hv64
  by_cases hvm : v < m
  · have d1 : decide ((v : Int) < (m : Int)) = true := by simp; omega
    obtain rfl : q = v := by omega
    clear hq
    have HQ := hid hvm
    go_wp2_with fail
    go_loopw [9, 10] (fun v i wr => ∃ (j : Nat), j ≤ m ∧ i = .int .i64 j ∧ wr.ownsRow w.heap.size 4 1 v j (((shL false q (fillB 13 a) a).take j).map Value.bool) ∧ Below w.heap.size w wr) (fun _ i _ => m - (intOf i).toNat)
    case atStart => exact ⟨0, Nat.zero_le _, rfl, World.ownsRow_nil _ _ _ _, Below.refl _ _⟩
    case round =>
      obtain ⟨j, hj, rfl, hown, hbel⟩ := hrel
      obtain ⟨wo, rfl⟩ : ∃ wo : World, wo = wr := ⟨_, rfl⟩
      obtain ⟨po, co, rfl⟩ := own_slice hown
      by_cases hlt : j < m
      · have hsn := shL_snoc false q (fillB 13 a) a j (by have := HLA.out; omega)
        have HBE := hid hbel; have HO := hid hown
        have hws := hbel.size
        have hqm := HQM.out
        clear hown hbel
        obtain ⟨t, ht, htn⟩ : ∃ t : Nat, (j : Int) + (q : Int) = (t : Int) ∧ j + q = t := ⟨j + q, by omega, rfl⟩
        by_cases htm : t < m
        · have htl : t < a.length := by have := HLA.out; omega
          have d2 : decide ((t : Int) < (m : Int)) = true := by simp; omega
          rw [show (if false = true then (if q ≤ j then a.getD (j - q) (fillB 13 a) else fillB 13 a) else a.getD (j + q) (fillB 13 a)) = a[t] by rw [if_neg (by simp), htn, getD_in _ _ _ htl]] at hsn
          obtain ⟨b1, o1, rfl, hR1, hcc1⟩ := HRX.out.atB (t) htl
          have e1 := (HBE.out.cell (p := ⟨b1, o1 + (t), none⟩) (HR.out b1 hR1)).trans (hcc1 (t) htl)
          generalize a[t] = bt at *
          have HSN := hid hsn
          clear hcc1 hR1 hsn
          clear htn
          go_wp2_with (at_builtin; refine wpList_app _ rfl (.tmp 49) (.tmp 54) 22 rfl w.heap.size 4 (.bool false) 1 Tryd.underlying22 info_bool rfl _ j _ rfl (HO.out.alloc _) (some ⟨wo.heap.size, 0, none⟩) 1 1 [.bool bt] rfl rfl (RowR.one _ _ _) (by simp [Value.oneCell']) (by omega) (by unfold maxLen; omega) (by rw [World.size_alloc]; omega) ?_; intro v' w6 hown4 hg4 _; have HO4 := hid hown4; have HG4 := hid hg4; clear hown4 hg4)
          go_roundw
          case rel => exact ⟨j + 1, by omega, by go_num, by rw [HSN.out, List.map_append]; exact HO4.out, below_one HBE.out hws HG4.out (fun j hj => (HO.out.lt _ hj).1)⟩
          case measure => (simp [intOf] <;> omega)
        · have d2 : decide ((t : Int) < (m : Int)) = false := by simp; omega
          rw [show (if false = true then (if q ≤ j then a.getD (j - q) (fillB 13 a) else fillB 13 a) else a.getD (j + q) (fillB 13 a)) = false by rw [if_neg (by simp), getD_out _ _ _ (by have := HLA.out; omega)]; rfl] at hsn
          have HSN := hid hsn
          clear hsn
          go_wp2_with (at_builtin; refine wpList_app _ rfl (.tmp 37) (.tmp 38) 22 rfl w.heap.size 4 (.bool false) 1 Tryd.underlying22 info_bool rfl _ j _ rfl (HO.out.alloc _) (some ⟨wo.heap.size, 0, none⟩) 1 1 [.bool false] rfl rfl (RowR.one _ _ _) (by simp [Value.oneCell']) (by omega) (by unfold maxLen; omega) (by rw [World.size_alloc]; omega) ?_; intro v' w6 hown4 hg4 _; have HO4 := hid hown4; have HG4 := hid hg4; clear hown4 hg4)
          go_roundw
          case rel => exact ⟨j + 1, by omega, by go_num, by rw [HSN.out, List.map_append]; exact HO4.out, below_one HBE.out hws HG4.out (fun j hj => (HO.out.lt _ hj).1)⟩
          case measure => (simp [intOf] <;> omega)
      · obtain rfl : j = m := by omega
        have hown0 := hown
        rw [List.take_of_length_le (by rw [shL_len, HLA.out]; exact Nat.le_refl _)] at hown0
        have hfin := bnew (w := w) hown0 (by omega) (Nat.le_refl _)
        have HF := hid (And.intro hfin hbel)
        clear hown hown0 hbel hfin
        go_wp2
        go_ret
        exact ⟨_, rfl, by rw [HSH.out]; exact HF.out.1, HF.out.2⟩

  · have d1 : decide ((v : Int) < (m : Int)) = false := by simp; omega
    obtain rfl : m = q := by omega
    have hmv : (m : Int) ≤ (v : Int) := by omega
    have hnv : ((v : Int) < (m : Int)) = False := by simp; omega
    clear hq
    go_wp2_with fail
    go_loopw [9, 10] (fun v i wr => ∃ (j : Nat), j ≤ m ∧ i = .int .i64 j ∧ wr.ownsRow w.heap.size 4 1 v j (((shL false m (fillB 13 a) a).take j).map Value.bool) ∧ Below w.heap.size w wr) (fun _ i _ => m - (intOf i).toNat)
    case atStart => exact ⟨0, Nat.zero_le _, rfl, World.ownsRow_nil _ _ _ _, Below.refl _ _⟩
    case round =>
      obtain ⟨j, hj, rfl, hown, hbel⟩ := hrel
      obtain ⟨wo, rfl⟩ : ∃ wo : World, wo = wr := ⟨_, rfl⟩
      obtain ⟨po, co, rfl⟩ := own_slice hown
      by_cases hlt : j < m
      · have hsn := shL_snoc false m (fillB 13 a) a j (by have := HLA.out; omega)
        have HBE := hid hbel; have HO := hid hown
        have hws := hbel.size
        have hqm := HQM.out
        clear hown hbel
        obtain ⟨t, ht, htn⟩ : ∃ t : Nat, (j : Int) + (m : Int) = (t : Int) ∧ j + m = t := ⟨j + m, by omega, rfl⟩
        by_cases htm : t < m
        · exfalso; omega
        · have d2 : decide ((t : Int) < (m : Int)) = false := by simp; omega
          rw [show (if false = true then (if m ≤ j then a.getD (j - m) (fillB 13 a) else fillB 13 a) else a.getD (j + m) (fillB 13 a)) = false by rw [if_neg (by simp), getD_out _ _ _ (by have := HLA.out; omega)]; rfl] at hsn
          have HSN := hid hsn
          clear hsn
          go_wp2_with (at_builtin; refine wpList_app _ rfl (.tmp 37) (.tmp 38) 22 rfl w.heap.size 4 (.bool false) 1 Tryd.underlying22 info_bool rfl _ j _ rfl (HO.out.alloc _) (some ⟨wo.heap.size, 0, none⟩) 1 1 [.bool false] rfl rfl (RowR.one _ _ _) (by simp [Value.oneCell']) (by omega) (by unfold maxLen; omega) (by rw [World.size_alloc]; omega) ?_; intro v' w6 hown4 hg4 _; have HO4 := hid hown4; have HG4 := hid hg4; clear hown4 hg4)
          go_roundw
          case rel => exact ⟨j + 1, by omega, by go_num, by rw [HSN.out, List.map_append]; exact HO4.out, below_one HBE.out hws HG4.out (fun j hj => (HO.out.lt _ hj).1)⟩
          case measure => (simp [intOf] <;> omega)
      · obtain rfl : j = m := by omega
        have hown0 := hown
        rw [List.take_of_length_le (by rw [shL_len, HLA.out]; exact Nat.le_refl _)] at hown0
        have hfin := bnew (w := w) hown0 (by omega) (Nat.le_refl _)
        have HF := hid (And.intro hfin hbel)
        clear hown hown0 hbel hfin
        go_wp2
        go_ret
        exact ⟨_, rfl, by rw [HSH.out]; exact HF.out.1, HF.out.2⟩


set_option maxRecDepth 100000 in
set_option maxHeartbeats 3200000 in
theorem refshift14_any (vx vy : Value) (a b : List Bool) (m : Nat) (R R' : Nat → Prop) (w : World) (ix : Bools R w vx a) (iy : Bools R' w vy b) (hR : ∀ k, R k → k < w.heap.size) (h1 : 1 ≤ m) (h64 : m ≤ 64) (la : a.length = m) (lb : b.length = m) :
    Calls Tryd.prog 12 #[.int .u8 14, vx, vy] w fun e w' => ∃ v, e = .returned v ∧ Bools (New w w') w' v (shB 14 a b) ∧ Below w.heap.size w w' := by
  have HV := hid (refvalue_any vy b R' w iy (by omega))
  obtain ⟨px, cx, rfl, _, _, hrx⟩ := ix.opn la
  obtain ⟨py, cy, rfl, _, _, _⟩ := iy.opn lb
  have hsh : shB 14 a b = shL false (min m (valB b)) (fillB 14 a) a := by
    unfold shB
    rw [← shL_min, la]; rfl
  have hv64 : valB b < 2 ^ 64 := Nat.lt_of_lt_of_le (valB_lt b) (Nat.pow_le_pow_right (by omega) (by omega))
  have HSH := hid hsh; have HRX := hid hrx; have HLA := hid la; have HR := hid hR
  have hlast : m - 1 < a.length := by omega
  clear hsh hrx la lb ix iy hR
  generalize valB b = v at *
  go_enter Tryd.func12, Tryd.ntmps12
  go_wp2_with fail
  (with_reducible refine HV.out.mono ?_)
  rintro e w' ⟨rfl, rfl⟩
  clear HV
  obtain ⟨q, hq⟩ : ∃ q, min m v = q := ⟨_, rfl⟩
  rw [hq] at HSH
  have HQM := hid (show q ≤ m by omega)
  have hvb : v < 18446744073709551616 := hv64
  clear hv64
  by_cases hvm : v < m
  · have d1 : decide ((v : Int) < (m : Int)) = true := by simp; omega
    obtain rfl : q = v := by omega
    clear hq
    have HQ := hid hvm
    go_wp2_with fail
    go_loopw [9, 10] (fun v i wr => ∃ (j : Nat), j ≤ m ∧ i = .int .i64 j ∧ wr.ownsRow w.heap.size 4 1 v j (((shL false q (fillB 14 a) a).take j).map Value.bool) ∧ Below w.heap.size w wr) (fun _ i _ => m - (intOf i).toNat)
    case atStart => exact ⟨0, Nat.zero_le _, rfl, World.ownsRow_nil _ _ _ _, Below.refl _ _⟩
    case round =>
      obtain ⟨j, hj, rfl, hown, hbel⟩ := hrel
      obtain ⟨wo, rfl⟩ : ∃ wo : World, wo = wr := ⟨_, rfl⟩
      obtain ⟨po, co, rfl⟩ := own_slice hown
      by_cases hlt : j < m
      · have hsn := shL_snoc false q (fillB 14 a) a j (by have := HLA.out; omega)
        have HBE := hid hbel; have HO := hid hown
        have hws := hbel.size
        have hqm := HQM.out
        clear hown hbel
        obtain ⟨t, ht, htn⟩ : ∃ t : Nat, (j : Int) + (q : Int) = (t : Int) ∧ j + q = t := ⟨j + q, by omega, rfl⟩
        by_cases htm : t < m
        · have htl : t < a.length := by have := HLA.out; omega
          have d2 : decide ((t : Int) < (m : Int)) = true := by simp; omega
          rw [show (if false = true then (if q ≤ j then a.getD (j - q) (fillB 14 a) else fillB 14 a) else a.getD (j + q) (fillB 14 a)) = a[t] by rw [if_neg (by simp), htn, getD_in _ _ _ htl]] at hsn
          obtain ⟨b1, o1, rfl, hR1, hcc1⟩ := HRX.out.atB (t) htl
          have e1 := (HBE.out.cell (p := ⟨b1, o1 + (t), none⟩) (HR.out b1 hR1)).trans (hcc1 (t) htl)
          generalize a[t] = bt at *
          have HSN := hid hsn
          clear hcc1 hR1 hsn
          clear htn
          go_wp2_with (at_builtin; refine wpList_app _ rfl (.tmp 49) (.tmp 54) 22 rfl w.heap.size 4 (.bool false) 1 Tryd.underlying22 info_bool rfl _ j _ rfl (HO.out.alloc _) (some ⟨wo.heap.size, 0, none⟩) 1 1 [.bool bt] rfl rfl (RowR.one _ _ _) (by simp [Value.oneCell']) (by omega) (by unfold maxLen; omega) (by rw [World.size_alloc]; omega) ?_; intro v' w6 hown4 hg4 _; have HO4 := hid hown4; have HG4 := hid hg4; clear hown4 hg4)
          go_roundw
          case rel => exact ⟨j + 1, by omega, by go_num, by rw [HSN.out, List.map_append]; exact HO4.out, below_one HBE.out hws HG4.out (fun j hj => (HO.out.lt _ hj).1)⟩
          case measure => (simp [intOf] <;> omega)
        · have d2 : decide ((t : Int) < (m : Int)) = false := by simp; omega
          have htl : m - 1 < a.length := hlast
          rw [show (if false = true then (if q ≤ j then a.getD (j - q) (fillB 14 a) else fillB 14 a) else a.getD (j + q) (fillB 14 a)) = a[m - 1] by rw [if_neg (by simp), getD_out _ _ _ (by have := HLA.out; omega)]; unfold fillB; rw [HLA.out, getD_in _ _ _ hlast]; simp] at hsn
          obtain ⟨b1, o1, rfl, hR1, hcc1⟩ := HRX.out.atB (m - 1) htl
          have e1 := (HBE.out.cell (p := ⟨b1, o1 + (m - 1), none⟩) (HR.out b1 hR1)).trans (hcc1 (m - 1) htl)
          generalize a[m - 1] = bt at *
          have HSN := hid hsn
          clear hcc1 hR1 hsn
          go_wp2_with (at_builtin; refine wpList_app _ rfl (.tmp 59) (.tmp 66) 22 rfl w.heap.size 4 (.bool false) 1 Tryd.underlying22 info_bool rfl _ j _ rfl (HO.out.alloc _) (some ⟨wo.heap.size, 0, none⟩) 1 1 [.bool bt] rfl rfl (RowR.one _ _ _) (by simp [Value.oneCell']) (by omega) (by unfold maxLen; omega) (by rw [World.size_alloc]; omega) ?_; intro v' w6 hown4 hg4 _; have HO4 := hid hown4; have HG4 := hid hg4; clear hown4 hg4)
          go_roundw
          case rel => exact ⟨j + 1, by omega, by go_num, by rw [HSN.out, List.map_append]; exact HO4.out, below_one HBE.out hws HG4.out (fun j hj => (HO.out.lt _ hj).1)⟩
          case measure => (simp [intOf] <;> omega)
      · obtain rfl : j = m := by omega
        have hown0 := hown
        rw [List.take_of_length_le (by rw [shL_len, HLA.out]; exact Nat.le_refl _)] at hown0
        have hfin := bnew (w := w) hown0 (by omega) (Nat.le_refl _)
        have HF := hid (And.intro hfin hbel)
        clear hown hown0 hbel hfin
        go_wp2
        go_ret
        exact ⟨_, rfl, by rw [HSH.out]; exact HF.out.1, HF.out.2⟩

  · have d1 : decide ((v : Int) < (m : Int)) = false := by simp; omega
    obtain rfl : m = q := by omega
    have hmv : (m : Int) ≤ (v : Int) := by omega
    have hnv : ((v : Int) < (m : Int)) = False := by simp; omega
    clear hq
    go_wp2_with fail
    go_loopw [9, 10] (fun v i wr => ∃ (j : Nat), j ≤ m ∧ i = .int .i64 j ∧ wr.ownsRow w.heap.size 4 1 v j (((shL false m (fillB 14 a) a).take j).map Value.bool) ∧ Below w.heap.size w wr) (fun _ i _ => m - (intOf i).toNat)
    case atStart => exact ⟨0, Nat.zero_le _, rfl, World.ownsRow_nil _ _ _ _, Below.refl _ _⟩
    case round =>
      obtain ⟨j, hj, rfl, hown, hbel⟩ := hrel
      obtain ⟨wo, rfl⟩ : ∃ wo : World, wo = wr := ⟨_, rfl⟩
      obtain ⟨po, co, rfl⟩ := own_slice hown
      by_cases hlt : j < m
      · have hsn := shL_snoc false m (fillB 14 a) a j (by have := HLA.out; omega)
        have HBE := hid hbel; have HO := hid hown
        have hws := hbel.size
        have hqm := HQM.out
        clear hown hbel
        obtain ⟨t, ht, htn⟩ : ∃ t : Nat, (j : Int) + (m : Int) = (t : Int) ∧ j + m = t := ⟨j + m, by omega, rfl⟩
        by_cases htm : t < m
        · exfalso; omega
        · have d2 : decide ((t : Int) < (m : Int)) = false := by simp; omega
          have htl : m - 1 < a.length := hlast
          rw [show (if false = true then (if m ≤ j then a.getD (j - m) (fillB 14 a) else fillB 14 a) else a.getD (j + m) (fillB 14 a)) = a[m - 1] by rw [if_neg (by simp), getD_out _ _ _ (by have := HLA.out; omega)]; unfold fillB; rw [HLA.out, getD_in _ _ _ hlast]; simp] at hsn
          obtain ⟨b1, o1, rfl, hR1, hcc1⟩ := HRX.out.atB (m - 1) htl
          have e1 := (HBE.out.cell (p := ⟨b1, o1 + (m - 1), none⟩) (HR.out b1 hR1)).trans (hcc1 (m - 1) htl)
          generalize a[m - 1] = bt at *
          have HSN := hid hsn
          clear hcc1 hR1 hsn
          go_wp2_with (at_builtin; refine wpList_app _ rfl (.tmp 59) (.tmp 66) 22 rfl w.heap.size 4 (.bool false) 1 Tryd.underlying22 info_bool rfl _ j _ rfl (HO.out.alloc _) (some ⟨wo.heap.size, 0, none⟩) 1 1 [.bool bt] rfl rfl (RowR.one _ _ _) (by simp [Value.oneCell']) (by omega) (by unfold maxLen; omega) (by rw [World.size_alloc]; omega) ?_; intro v' w6 hown4 hg4 _; have HO4 := hid hown4; have HG4 := hid hg4; clear hown4 hg4)
          go_roundw
          case rel => exact ⟨j + 1, by omega, by go_num, by rw [HSN.out, List.map_append]; exact HO4.out, below_one HBE.out hws HG4.out (fun j hj => (HO.out.lt _ hj).1)⟩
          case measure => (simp [intOf] <;> omega)
      · obtain rfl : j = m := by omega
        have hown0 := hown
        rw [List.take_of_length_le (by rw [shL_len, HLA.out]; exact Nat.le_refl _)] at hown0
        have hfin := bnew (w := w) hown0 (by omega) (Nat.le_refl _)
        have HF := hid (And.intro hfin hbel)
        clear hown hown0 hbel hfin
        go_wp2
        go_ret
        exact ⟨_, rfl, by rw [HSH.out]; exact HF.out.1, HF.out.2⟩


theorem refshift_any (i : Nat) (hi : i < 3) (vx vy : Value) (a b : List Bool) (m : Nat) (R R' : Nat → Prop) (w : World) (ix : Bools R w vx a) (iy : Bools R' w vy b) (hR : ∀ k, R k → k < w.heap.size) (h1 : 1 ≤ m) (h64 : m ≤ 64) (la : a.length = m) (lb : b.length = m) :
    Calls Tryd.prog 12 #[.int .u8 (opAt i), vx, vy] w fun e w' => ∃ v, e = .returned v ∧ Bools (New w w') w' v (shB (opAt i) a b) ∧ Below w.heap.size w w' := by
  have : i = 0 ∨ i = 1 ∨ i = 2 := by omega
  rcases this with rfl | rfl | rfl
  · exact refshift12_any vx vy a b m R R' w ix iy hR h1 h64 la lb
  · exact refshift13_any vx vy a b m R R' w ix iy hR h1 h64 la lb
  · exact refshift14_any vx vy a b m R R' w ix iy hR h1 h64 la lb

end Go.Proofs.YtjcnhnifageikaaDoor
