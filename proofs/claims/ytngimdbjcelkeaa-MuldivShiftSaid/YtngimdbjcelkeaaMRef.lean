/-
  The reference of layer 17: the walk of Mul.
-/
import Derived.Test.YtngimdbjcelkeaaMBackF
import Derived.Test.YtngimdbjcelkeaaRef2
namespace Go.Proofs.Ytngimdbjcelkeaa
set_option linter.unusedSimpArgs false
set_option linter.unusedVariables false
open Go.RowKit Go.Shelf

theorem Bools.take {R : Nat → Prop} {w : World} {p : Option Addr} {n c : Nat} {xs : List Bool} (h : Bools R w (.slice p n c) xs) (k : Nat) (hk : k ≤ n) : Bools R w (.slice p k c) (xs.take k) := by
  obtain ⟨p', c', e, h1, h2, h3, hr⟩ := h.op
  injection e with e1 e2 e3
  subst e1 e2 e3
  have hl : (xs.take k).length = k := by rw [List.length_take]; omega
  exact ⟨_, _, by rw [List.length_map, hl], by rw [List.length_map, hl]; omega, h2, by rw [List.length_map, hl]; omega, by rw [List.map_take]; exact hr.take k⟩
theorem Bools.opn' {R : Nat → Prop} {w : World} {v : Value} {xs : List Bool} {n : Nat} (h : Bools R w v xs) (hn : xs.length = n) :
    ∃ p c, v = .slice p n c ∧ n ≤ c ∧ c ≤ maxLen ∧ RowR R w p (xs.map Value.bool) := by
  subst hn
  obtain ⟨p, c, e, h1, h2, _, h3⟩ := h.op
  exact ⟨p, c, e, h1, h2, h3⟩

theorem own_slice_le {base e n : Nat} {w : World} {v : Value} {xs : List Value} (h : w.ownsRow base e 1 v n xs) : ∃ p c, v = .slice p n c ∧ n ≤ c := by
  rcases h.2 with ⟨rfl, h0⟩ | ⟨g, cap, cur, rfl, _, _, h1, _⟩
  · exact ⟨none, 0, by rw [h0], by omega⟩
  · exact ⟨_, cap, rfl, h1⟩

theorem mul_step (m i : Nat) (a b : List Bool) (ha : a.length = m) (hi : i < b.length) (h : b[i] = true) : addB (ofB m (valB a * valB (b.take i))) (partB m a i true) false = ofB m (valB a * valB (b.take (i + 1))) := by
  refine ofB_eq (by rw [addB_len _ _ _ (by rw [ofB_len, partB_len ha]), ofB_len]) ?_
  rw [addB_val _ _ _ (by rw [ofB_len, partB_len ha]), ofB_len, valB_ofB, partB_val, valB_take b i hi, h, Bool.toNat_false, Nat.add_zero, ← Nat.add_mod, Nat.mul_add]
theorem mul_skip (m i : Nat) (a b : List Bool) (hi : i < b.length) (h : b[i] = false) : ofB m (valB a * valB (b.take (i + 1))) = ofB m (valB a * valB (b.take i)) := by
  rw [valB_take b i hi, h, Bool.toNat_false, Nat.zero_mul, Nat.add_zero]

set_option maxRecDepth 100000 in
set_option maxHeartbeats 3200000 in
theorem refmul_any (vx vy : Value) (xs ys : List Bool) (m : Nat) (R R' : Nat → Prop) (w : World) (hR : ∀ k, R k → k < w.heap.size) (hR' : ∀ k, R' k → k < w.heap.size) (hx : Bools R w vx xs) (hy : Bools R' w vy ys) (hxl : xs.length = m) (hyl : ys.length = m) (hm : m ≤ 64) :
    Calls Try.prog 63 #[vx, vy] w fun e w' => ∃ v, e = .returned v ∧ Bools (New w w') w' v (ofB m (valB xs * valB ys)) ∧ Below w.heap.size w w' := by
  obtain ⟨px, cx, rfl, _, _, hrx⟩ := hx.opn' hxl
  obtain ⟨py, cy, rfl, _, _, hry⟩ := hy.opn' hyl
  have hmk : ∀ (i : Nat) (w : World), i ≤ 64 → (Instr.makeSlice 22 (.int .i64 (i : Int)) (.int .i64 (i : Int))).run Try.prog w = .ok (.slice (some ⟨w.heap.size, 0, none⟩) i i) (w.alloc (.cells (Array.replicate i (.bool false)) 4)) := fun i w hi =>
    make_run (P := Try.prog) Try.underlying22 info_bool rfl i (by omega) (by omega) w
  have hmk1 := fun w => hmk m w hm
  have HMK := hid hmk
  have hb0 : Below w.heap.size w (w.alloc (.cells (Array.replicate m (.bool false)) 4)) := (Below.refl _ _).alloc (Nat.le_refl _) _
  have h0 : Bools (New w (w.alloc (.cells (Array.replicate m (.bool false)) 4))) (w.alloc (.cells (Array.replicate m (.bool false)) 4)) (.slice (some ⟨w.heap.size, 0, none⟩) m m) (ofB m (valB xs * valB (ys.take 0))) := by
    rw [List.take_zero, valB, Nat.mul_zero, ofB_zero]
    refine ⟨_, m, by rw [List.length_map, List.length_replicate], by simp, by unfold maxLen; omega, by simp; omega, .inr ⟨w.heap.size, 0, rfl, ⟨Nat.le_refl _, by simp⟩, fun j hj => ?_⟩⟩
    rw [Nat.zero_add, cell_lit]
    simp at hj ⊢
    simp [hj]
  have H0 := hid h0; have HB0 := hid hb0; have HXL := hid hxl; have HYL := hid hyl; have HR := hid hR; have HR' := hid hR'; have HX := hid hx
  clear h0 hb0 hxl hyl hR hR' hx hy hmk
  go_enter Try.func63, Try.ntmps63
  go_wp2_with fail
  go_loopw [5, 6] (fun v i wr => ∃ (k : Nat), k ≤ m ∧ i = .int .i64 k ∧ Bools (New w wr) wr v (ofB m (valB xs * valB (ys.take k))) ∧ Below w.heap.size w wr) (fun _ i _ => m - (intOf i).toNat)
  case atStart => exact ⟨0, by omega, rfl, H0.out, HB0.out⟩
  case round =>
    obtain ⟨k, hk, rfl, hv, hbel⟩ := hrel
    obtain ⟨wo, rfl⟩ : ∃ wo : World, wo = wr := ⟨_, rfl⟩
    obtain ⟨po, co, rfl, _, _, _⟩ := hv.opn' (ofB_len _ _)
    by_cases hlt : k < m
    · have hky : k < ys.length := by have := HYL.out; omega
      obtain ⟨by_, oy, rfl, hRy, hcy⟩ := hry.atB k hky
      have dy := (hbel.cell (p := ⟨by_, oy + k, none⟩) (HR'.out _ hRy)).trans (hcy k hky)
      have HV := hid hv; have HBE := hid hbel
      cases hbk : ys[k]
      · rw [hbk] at dy
        have hs := mul_skip m k xs ys hky hbk
        have HS := hid hs
        clear hcy hv hbel hbk hs
        go_wp2
        go_roundw
        case rel => exact ⟨k + 1, by omega, by go_num, by rw [HS.out]; exact HV.out, HBE.out⟩
        case measure => simp [intOf]; omega
      · rw [hbk] at dy
        have hs := mul_step m k xs ys HXL.out hky hbk
        have HS := hid hs
        have hmk2 := fun w => HMK.out k w (by omega)
        have ho1 := World.ownsRow_lit (base := w.heap.size) (e := 4) (size := 1) wo (Array.replicate k (.bool false)) k hbel.size (by unfold maxLen; omega) (by simp)
        have hb1 : Below w.heap.size w (wo.alloc (.cells (Array.replicate k (.bool false)) 4)) := hbel.alloc hbel.size _
        have hrx1 : RowR (fun _ => True) (wo.alloc (.cells (Array.replicate k (.bool false)) 4)) px (xs.map Value.bool) := hrx.keep fun q hq => ⟨trivial, hb1.block q (HR.out q hq)⟩
        have HO1 := hid ho1; have HB1 := hid hb1; have HRX1 := hid hrx1
        have hws := hbel.size
        clear hcy hv hbel hbk hs ho1 hb1 hrx1
        go_wp2_with (at_builtin; refine wpList_app _ rfl (.tmp 22) (.tmp 23) 22 rfl w.heap.size 4 (.bool false) 1 Try.underlying22 info_bool rfl _ k _ rfl HO1.out px m cx _ rfl (by rw [List.length_map, HXL.out]) HRX1.out (bools_one _) (by omega) (by unfold maxLen; omega) (by simp only [World.size_alloc]; omega) ?_; intro v2 w2 ho2 hg2 _; obtain ⟨p2, c2, rfl, hkc⟩ := own_slice_le ho2; have hmc : m ≤ c2 := Nat.le_trans (Nat.le_add_left m k) hkc; have HO2 := hid ho2; have HG2 := hid hg2; clear ho2 hg2)
        have hb2 : Below w.heap.size w w2 := HB1.out.grown HG2.out (by simp only [World.size_alloc]; omega) (fun q hq => by have hq' : some wo.heap.size = some q := hq; injection hq' with hq'; omega)
        have hbo2 : Below wo.heap.size wo w2 := ((Below.refl _ _).alloc (Nat.le_refl _) _).grown HG2.out (by simp) (fun q hq => by have hq' : some wo.heap.size = some q := hq; injection hq' with hq'; omega)
        have hsh : Bools (New w w2) w2 (.slice p2 m c2) (partB m xs k true) := by
          have e : (Array.replicate k (Value.bool false)).toList ++ xs.map Value.bool = (List.replicate k false ++ xs).map Value.bool := by simp
          have := bnew (w := w) (by have := HO2.out; rw [e] at this; exact this) (by omega) (Nat.le_refl _)
          have := this.take m (by omega)
          unfold partB
          simp only [Bool.and_true, List.map_id']
          exact this
        have hout : Bools (New w w2) w2 (.slice po m co) (ofB m (valB xs * valB (ys.take k))) := HV.out.keep fun q hq => ⟨⟨hq.1, Nat.lt_of_lt_of_le hq.2 hbo2.size⟩, hbo2.block q hq.2⟩
        have hc := refadd_any (.slice po m co) (.slice p2 m c2) _ _ false _ _ w2 (fun q hq => hq.2) (fun q hq => hq.2) hout hsh (by rw [partB_len HXL.out, ofB_len]) (by rw [ofB_len]; omega)
        rw [HS.out, ofB_len] at hc
        have HC := hid hc; have HB2 := hid hb2
        clear hb2 hbo2 hsh hout hc HO1 HB1 HRX1 HO2 HG2 HV HS
        (with_reducible refine HC.out.mono ?_)
        rintro e w3 ⟨v3, rfl, ho3, hb3⟩
        obtain ⟨p3, c3, rfl⟩ := own_slice ho3
        have hn3 : Bools (New w w3) w3 (.slice p3 m c3) (ofB m (valB xs * valB (ys.take (k + 1)))) := bnew ho3 (by omega) (by have := HB2.out.size; exact this)
        have HN3 := hid hn3; have HB3 := hid (below_tr' HB2.out hb3 (Nat.le_refl _))
        clear ho3 hb3 hn3 HC
        go_wp2
        go_roundw
        case rel => exact ⟨k + 1, by omega, by go_num, HN3.out, HB3.out⟩
        case measure => simp [intOf]; omega
    · obtain rfl : k = m := by omega
      have HV := hid hv; have HBE := hid hbel
      clear hv hbel
      go_wp2
      go_ret
      have := HV.out
      rw [List.take_of_length_le (by have := HYL.out; omega)] at this
      exact ⟨_, rfl, this, HBE.out⟩

end Go.Proofs.Ytngimdbjcelkeaa
