/-
  Package muldiv: numbers as bits (plain); the walks of check and sum.
  Package muldiv: the walk of Mul.
  Package muldiv: the walk of Mul (its rows, its loops).
-/
import Derived.Test.YtngimdbjcelkeaaKit
namespace Go.Proofs.Ytngimdbjcelkeaa
set_option linter.unusedSimpArgs false
set_option linter.unusedVariables false
open Go.RowKit Go.Shelf

/-! ### numbers as bits -/
/-- The lowest n bits of v. -/
def ofB : Nat → Nat → List Bool
  | 0, _ => []
  | n + 1, v => decide (v % 2 = 1) :: ofB n (v / 2)
theorem ofB_len : ∀ n v, (ofB n v).length = n
  | 0, _ => rfl
  | n + 1, v => by rw [ofB, List.length_cons, ofB_len]
theorem valB_ofB : ∀ n v, valB (ofB n v) = v % 2 ^ n
  | 0, v => by rw [ofB, valB, Nat.pow_zero, Nat.mod_one]
  | n + 1, v => by
    rw [ofB, valB, valB_ofB n (v / 2), Nat.pow_succ, Nat.mul_comm (2 ^ n) 2, Nat.mod_mul]
    have : (decide (v % 2 = 1)).toNat = v % 2 := by
      have := Nat.mod_two_eq_zero_or_one v
      rcases this with h | h <;> simp [h]
    rw [this]
theorem ofB_valB (l : List Bool) : ofB l.length (valB l) = l :=
  valB_inj (ofB_len _ _) (by rw [valB_ofB, Nat.mod_eq_of_lt (valB_lt l)])
theorem ofB_eq {n v : Nat} {l : List Bool} (hl : l.length = n) (h : valB l = v % 2 ^ n) : l = ofB n v :=
  valB_inj (by rw [ofB_len, hl]) (by rw [valB_ofB, h])
theorem ofB_mod (n v : Nat) : ofB n (v % 2 ^ n) = ofB n v := valB_inj (by rw [ofB_len, ofB_len]) (by rw [valB_ofB, valB_ofB, Nat.mod_mod])
theorem ofB_zero (n : Nat) : ofB n 0 = List.replicate n false := by
  induction n with
  | zero => rfl
  | succ n ih => rw [ofB, List.replicate_succ, Nat.zero_div, ih]; rfl

/-- The sum of words. -/
def sumV (bs : List (List Bool)) : Nat := (bs.map valB).foldr (· + ·) 0
theorem sumV_nil : sumV [] = 0 := rfl
theorem sumV_cons (b : List Bool) (bs : List (List Bool)) : sumV (b :: bs) = valB b + sumV bs := rfl
theorem sumV_app (cs bs : List (List Bool)) : sumV (cs ++ bs) = sumV cs + sumV bs := by
  induction cs with
  | nil => rw [List.nil_append, sumV_nil, Nat.zero_add]
  | cons a cs ih => rw [List.cons_append, sumV_cons, sumV_cons, ih, Nat.add_assoc]
theorem add_ofB (n u v : Nat) : addB (ofB n u) (ofB n v) false = ofB n (u + v) := by
  refine ofB_eq (by rw [addB_len _ _ _ (by rw [ofB_len, ofB_len]), ofB_len]) ?_
  rw [addB_val _ _ _ (by rw [ofB_len, ofB_len]), ofB_len, valB_ofB, valB_ofB, Bool.toNat_false, Nat.add_zero, ← Nat.add_mod]

/-! ### gates over a circuit -/
section
variable {w0 w : World} {bb n V K : Nat} {vin vval : Value} {σ : Nat → Bool} {F : Form} (h : Bas w0 bb n vin vval V K w σ F)
include h
theorem Bas.gate {r : Out} {b : Bool} (hg : GateOk n σ F r b) {e : Ending} {w' : World} (hp : GatePost bb w r e w') : BasL w0 bb n vin vval V K w σ F b 1 6 e w' := by
  obtain ⟨h0, σ', hx, hok, hb⟩ := hg
  obtain ⟨he, hB, hf⟩ := hp
  rw [h0] at he
  exact ⟨r.1, σ', r.2.2, he, h.step hf (h.st.c.step hf hB hx) hx, ⟨hok, hb⟩, hf, hx⟩
theorem Bas.and {x y : Int} {a b : Bool} (hx : LitIs σ F x a) (hy : LitIs σ F y b) (hV : V < 1048576) (hK : K + 6 ≤ 1048576) :
    Calls Try.prog 101 #[.pointer (some ⟨bb, 0, none⟩), .int .i64 x, .int .i64 y] w (BasL w0 bb n vin vval V K w σ F (a && b) 1 6) := by
  have := h.v; have := h.c
  have hg := and_good h.st.c.good hx.1 hy.1 (by omega) (by omega)
  rw [hx.2, hy.2] at hg
  exact (and_any bb F x y w h.st.c.b (lit_i64 h.st.c.b.vars hx.1) (lit_i64 h.st.c.b.vars hy.1)).mono fun _ _ hp => h.gate hg hp
theorem Bas.or {x y : Int} {a b : Bool} (hx : LitIs σ F x a) (hy : LitIs σ F y b) (hV : V < 1048576) (hK : K + 6 ≤ 1048576) :
    Calls Try.prog 120 #[.pointer (some ⟨bb, 0, none⟩), .int .i64 x, .int .i64 y] w (BasL w0 bb n vin vval V K w σ F (a || b) 1 6) := by
  have := h.v; have := h.c
  have hg := or_good h.st.c.good hx.1 hy.1 (by omega) (by omega)
  rw [hx.2, hy.2] at hg
  exact (or_any bb F x y w h.st.c.b (Bd.lit h.st.c.b.vars hx.1) (Bd.lit h.st.c.b.vars hy.1)).mono fun _ _ hp => h.gate hg hp
end

/-- A literal that is there, with itself. -/
theorem and_self_any (bb : Nat) (F : Form) (x : Int) (w : World) (hB : IsB w bb F) (hx : okLit F.vars x = true) :
    Calls Try.prog 101 #[.pointer (some ⟨bb, 0, none⟩), .int .i64 x, .int .i64 x] w fun e w' => e = .returned (.tuple #[.int .i64 x, .int .i64 0]) ∧ IsB w' bb F ∧ FrB bb w w' := by
  have e : andM F x x = (x, 0, F) := by unfold andM; simp [hasAll, hx]
  have := and_any bb F x x w hB (lit_i64 hB.vars hx) (lit_i64 hB.vars hx)
  rw [e] at this
  exact this

set_option maxHeartbeats 1600000 in
theorem mcheck_ok (bb : Nat) (F : Form) (xs ys : List Int) (vx vy : Value) (w : World) (hB : IsB w bb F) (hx : Ints (Away bb w) w vx xs) (hy : Ints (Away bb w) w vy ys) (W : Nat) (h1 : 1 ≤ W) (h64 : W ≤ 64) (hW : xs.length = W) (hl : ys.length = W)
    (hox : ∀ x ∈ xs, okLit F.vars x = true) (hoy : ∀ x ∈ ys, okLit F.vars x = true) :
    Calls Try.prog 100 #[.pointer (some ⟨bb, 0, none⟩), vx, vy] w fun e w' => e = .returned (.int .i64 0) ∧ IsB w' bb F ∧ FrB bb w w' := by
  obtain ⟨px, cx, rfl, _, _, hrx⟩ := hx.opn hW
  obtain ⟨py, cy, rfl, _, _, hry⟩ := hy.opn hl
  have d1 : decide ((W : Int) < 1) = false := by simp; omega
  have d2 : decide ((64 : Int) < W) = false := by simp; omega
  have hb1 : Below w.heap.size w (w.alloc (.cells #[.slice px W cx, .slice py W cy] 23)) := (Below.refl _ _).alloc (Nat.le_refl _) _
  have hf1 := FrB.of_below hB hb1
  have hB1 := hB.below hb1
  have ha1 := hB.away_new hb1 (k := w.heap.size) (Nat.le_refl _) (by simp)
  have hc1 : (w.alloc (.cells #[.slice px W cx, .slice py W cy] 23)).heap[w.heap.size]? = some (.cells #[.slice px W cx, .slice py W cy] 23 (0, 0)) := by rw [heap_al, if_pos rfl]
  have HX := hid hox; have HY := hid hoy; have HW := hid hW; have HL := hid hl
  have HRX := hid (hrx.fr hf1); have HRY := hid (hry.fr hf1)
  have HB1 := hid hB1; have HA1 := hid ha1; have HC1 := hid hc1; have HF1 := hid hf1
  clear hox hoy hW hl hx hy hrx hry hB1 ha1 hc1 hf1 hb1 hB
  go_enter Try.func100, Try.ntmps100
  go_wp2_with fail
  generalize hw1 : World.alloc w _ = w1 at *
  clear hw1
  go_loopw [34] (fun i wr => ∃ j : Nat, j ≤ 2 ∧ i = .int .i64 j ∧ IsB wr bb F ∧ FrB bb w1 wr) (fun i _ => 2 - (intOf i).toNat)
  case atStart => exact ⟨0, by omega, rfl, HB1.out, Fr.refl _ _⟩
  case round =>
    obtain ⟨j, hj, rfl, hBw, hfw⟩ := hrel
    obtain ⟨wo, rfl⟩ : ∃ wo : World, wo = wr := ⟨_, rfl⟩
    by_cases hlt : j < 2
    · have hjd : decide ((j : Int) < 2) = true := by simp; omega
      obtain ⟨pz, cz, zs, hcell, hrz, hzl, hzo⟩ : ∃ (pz : Option Addr) (cz : Nat) (zs : List Int), wo.cell? ⟨w.heap.size, j, none⟩ = some (.slice pz W cz) ∧ RowR (Away bb wo) wo pz (zs.map (Value.int .i64)) ∧ zs.length = W ∧ ∀ x ∈ zs, okLit F.vars x = true := by
        have hcw := (hfw.keep _ HA1.out).2.trans HC1.out
        have : j = 0 ∨ j = 1 := by omega
        rcases this with rfl | rfl
        · exact ⟨px, cx, xs, by rw [cell_of_cells hcw]; rfl, HRX.out.fr hfw, HW.out, HX.out⟩
        · exact ⟨py, cy, ys, by rw [cell_of_cells hcw]; rfl, HRY.out.fr hfw, HL.out, HY.out⟩
      have HZO := hid hzo; have HZL := hid hzl; have HBW := hid hBw; have HFW := hid hfw; have HRZ := hid hrz
      clear hzo hzl hBw hfw hrz
      go_wp2_with fail
      go_loopw [40] (fun i wr => ∃ k : Nat, k ≤ W ∧ i = .int .i64 k ∧ IsB wr bb F ∧ FrB bb wo wr) (fun i _ => W - (intOf i).toNat)
      case atStart => exact ⟨0, by omega, rfl, HBW.out, Fr.refl _ _⟩
      case round =>
        obtain ⟨k, hk, rfl, hBk, hfk⟩ := hrel
        obtain ⟨wp, rfl⟩ : ∃ wp : World, wp = wr := ⟨_, rfl⟩
        by_cases hlk : k < W
        · have hkz : k < zs.length := by have := HZL.out; omega
          obtain ⟨b1, o1, rfl, hR1, hcc⟩ := (HRZ.out.fr hfk).atI k hkz
          have hck := hcc k hkz
          have HC := hid (and_self_any bb F zs[k] wp hBk (HZO.out _ (List.getElem_mem hkz)))
          have HFK := hid hfk
          clear hcc hBk hfk hR1
          generalize zs[k] = x at *
          go_wp2_with (go_at_call 101; refine HC.out.mono ?_; rintro e w5 ⟨rfl, hB5, hf5⟩; have HB5 := hid hB5; have HF5 := hid hf5; clear hB5 hf5)
          go_roundw
          case rel => exact ⟨k + 1, by omega, by go_num, HB5.out, HFK.out.trans HF5.out⟩
          case measure => simp [intOf]; omega
        · obtain rfl : k = W := by omega
          have HBK := hid hBk; have HFK := hid hfk
          clear hBk hfk
          go_wp2
          go_roundw
          case rel => exact ⟨j + 1, by omega, by go_num, HBK.out, HFW.out.trans HFK.out⟩
          case measure => simp [intOf]; omega
    · obtain rfl : j = 2 := by omega
      have HBW := hid hBw; have HFW := hid hfw
      clear hBw hfw
      go_wp2
      go_ret
      exact ⟨rfl, HBW.out, HF1.out.trans HFW.out⟩

theorem RowR.take {R : Nat → Prop} {w : World} {p : Option Addr} {cs : List Value} (h : RowR R w p cs) (k : Nat) : RowR R w p (cs.take k) := by
  rcases h with rfl | ⟨b, off, hp, hR, hc⟩
  · exact .inl (by simp)
  · exact .inr ⟨b, off, hp, hR, fun j hj => by
      have hj2 : j < cs.length := by rw [List.length_take] at hj; omega
      rw [hc j hj2, List.getElem_take]⟩
theorem RowR.drop {R : Nat → Prop} {w : World} {b off : Nat} {cs : List Value} (h : RowR R w (some ⟨b, off, none⟩) cs) (k : Nat) : RowR R w (some ⟨b, off + k, none⟩) (cs.drop k) := by
  rcases h with rfl | ⟨b', off', hp, hR, hc⟩
  · exact .inl (by simp)
  · injection hp with hp
    injection hp with h1 h2
    subst h1 h2
    exact .inr ⟨_, _, rfl, hR, fun j hj => by
      have hj2 : k + j < cs.length := by rw [List.length_drop] at hj; omega
      rw [Nat.add_assoc, hc (k + j) hj2, List.getElem_drop]⟩

theorem BasW.mono {w0 w w' : World} {bb n V K V' K' : Nat} {vin vval : Value} {σ : Nat → Bool} {F : Form} {bs : List Bool} {dv dc dv' dc' : Nat} {e : Ending} (h : BasW w0 bb n vin vval V K w σ F bs dv dc e w') (hv : dv ≤ dv') (hc : dc ≤ dc') : BasW w0 bb n vin vval V K w σ F bs dv' dc' e w' := by
  obtain ⟨v, zs, σ', F', he, hB, hi, hl, hf, hx⟩ := h
  exact ⟨v, zs, σ', F', he, hB.mono (by omega) (by omega), hi, hl, hf, ⟨hx.good, hx.old, hx.v0, by have := hx.v1; omega, hx.c0, by have := hx.c1; omega⟩⟩

theorem sum_dv (a m h g : Nat) (h1 : 1 ≤ h) (g1 : 1 ≤ g) : a * m * (h - 1) + a * m * (g - 1) + a * m = a * m * (h + g - 1) := by
  have : h + g - 1 = (h - 1) + (g - 1) + 1 := by omega
  rw [this, Nat.mul_add, Nat.mul_add, Nat.mul_one]

set_option maxRecDepth 100000 in
set_option maxHeartbeats 1600000 in
theorem sum_c (m : Nat) (hm1 : 1 ≤ m) (hm64 : m ≤ 64) : ∀ (N : Nat) {w0 w : World} {bb n V K : Nat} {vin vval : Value} {σ : Nat → Bool} {F : Form} (h : Bas w0 bb n vin vval V K w σ F) (ws : List (Value × List Int × List Bool)) (hK : Kit bb w σ F ws [])
    (hl : ∀ x ∈ ws, x.2.2.length = m) (p : Option Addr) (k c : Nat) (hk : k = ws.length) (hkN : k ≤ N) (hk1 : 1 ≤ k) (hk64 : k ≤ 64) (hkc : k ≤ c) (hcm : c ≤ maxLen) (hr : RowR (Away bb w) w p (ws.map (·.1)))
    (hV : V + 3 * m * (k - 1) < 1048576) (hC : K + 18 * m * (k - 1) ≤ 1048576),
    Calls Try.prog 102 #[.pointer (some ⟨bb, 0, none⟩), .slice p k c] w (BasW w0 bb n vin vval V K w σ F (ofB m (sumV (ws.map (·.2.2)))) (3 * m * (k - 1)) (18 * m * (k - 1))) := by
  intro N
  induction N with
  | zero => intro w0 w bb n V K vin vval σ F h ws hK hl p k c hk hkN hk1; omega
  | succ N ih =>
    intro w0 w bb n V K vin vval σ F h ws hK hl p k c hk hkN hk1 hk64 hkc hcm hr hV hC
    by_cases hone : k = 1
    · subst hone
      obtain ⟨x, rfl⟩ := List.length_eq_one_iff.1 hk.symm
      obtain ⟨b, off, rfl, hR, hc⟩ := hr.at 0 (by simp)
      have hc0 := hc 0 (by simp)
      have hx := hK.w x (by simp)
      have e : ofB m (sumV ([x].map (·.2.2))) = x.2.2 := by
        have := hl x (by simp)
        rw [← this]
        exact ofB_valB _
      rw [e]
      simp only [List.map_cons, List.map_nil, List.getElem_cons_zero, Nat.add_zero] at hc0
      obtain ⟨v, zs, bs⟩ := x
      have HX := hid hx; have HH := hid h
      clear hc hR hr hK hx h ih hl hk e
      go_enter Try.func102, Try.ntmps102
      go_wp2_with fail
      go_ret2
      exact ⟨v, zs, σ, F, rfl, HH.out.mono (by omega) (by omega), HX.out.1, HX.out.2, Fr.refl _ _, Ext.refl HH.out.st.c.good _ _⟩
    · obtain ⟨h2, hh2⟩ : ∃ h2, k / 2 = h2 := ⟨_, rfl⟩
      have a1 : 1 ≤ h2 := by omega
      have a2 : h2 < k := by omega
      have e1 : ((k : Int)).tdiv 2 = (h2 : Int) := by rw [Int.tdiv_eq_ediv_of_nonneg (by omega)]; omega
      have e2 : (k : Int) / 2 = (h2 : Int) := by omega
      have d1 : ((k : Int) == 1) = false := by rw [beq_eq_false_iff_ne]; omega
      obtain ⟨b, off, rfl, hR, _⟩ := hr.at 0 (by simp; omega)
      have hwt : (ws.take h2).length = h2 := by rw [List.length_take]; omega
      have hwd : (ws.drop h2).length = k - h2 := by rw [List.length_drop]; omega
      have hK1 : Kit bb w σ F (ws.take h2) [] := ⟨fun x hx => hK.w x (List.mem_of_mem_take hx), hK.l⟩
      have hd := sum_dv 3 m h2 (k - h2) a1 (by omega)
      have hd' := sum_dv 18 m h2 (k - h2) a1 (by omega)
      rw [show h2 + (k - h2) - 1 = k - 1 by omega] at hd hd'
      have HC1 := hid (ih h (ws.take h2) hK1 (fun x hx => hl x (List.mem_of_mem_take hx)) (some ⟨b, off, none⟩) h2 h2 hwt.symm (by omega) a1 (by omega) (Nat.le_refl _) (by omega) (by rw [List.map_take]; exact hr.take h2) (by omega) (by omega))
      have HC2 := hid (fun (w1 : World) (σ1 : Nat → Bool) (F1 : Form) (h1 : Bas w0 bb n vin vval (V + 3 * m * (h2 - 1)) (K + 18 * m * (h2 - 1)) w1 σ1 F1) (hf1 : FrB bb w w1) (hx1 : Ext n σ F σ1 F1 (3 * m * (h2 - 1)) (18 * m * (h2 - 1))) =>
        ih h1 (ws.drop h2) ⟨fun x hx => (hK.step hf1 hx1).w x (List.mem_of_mem_drop hx), (hK.step hf1 hx1).l⟩ (fun x hx => hl x (List.mem_of_mem_drop hx)) (some ⟨b, off + h2, none⟩) (k - h2) (c - h2) hwd.symm (by omega) (by omega) (by omega) (by omega) (by omega) (by rw [List.map_drop]; exact (hr.fr hf1).drop h2) (by omega) (by omega))
      have HH := hid h; have HD := hid (And.intro hd hd'); have HVC := hid (And.intro hV hC)
      have es : sumV (ws.map (·.2.2)) = sumV ((ws.take h2).map (·.2.2)) + sumV ((ws.drop h2).map (·.2.2)) := by
        rw [← sumV_app, ← List.map_append, List.take_append_drop]
      have HES := hid es
      clear hwt hwd hK1 hd hd' hr hK hl ih h es hh2 hone hk hV hC hR
      unfold maxLen at hcm
      go_enter Try.func102, Try.ntmps102
      go_wp2_with fail
      (with_reducible refine HC1.out.mono ?_)
      rintro e w1 ⟨v1, zs1, σ1, F1, rfl, hB1, hi1, hL1, hf1, hx1⟩
      have hl1 : zs1.length = m := by rw [hL1.len, ofB_len]
      obtain ⟨p1, c1, rfl, _, _, _⟩ := hi1.opn hl1
      have HC3 := hid (HC2.out w1 σ1 F1 hB1 hf1 hx1)
      have HI1 := hid hi1; have HL1 := hid hL1; have HF1 := hid hf1; have HX1 := hid hx1
      clear hB1 hi1 hL1 hf1 hx1 hl1 HC1 HC2
      go_wp2_with fail
      (with_reducible refine HC3.out.mono ?_)
      rintro e w2 ⟨v2, zs2, σ2, F2, rfl, hB2, hi2, hL2, hf2, hx2⟩
      have hl2 : zs2.length = m := by rw [hL2.len, ofB_len]
      obtain ⟨p2, c2, rfl, _, _, _⟩ := hi2.opn hl2
      have HC4 := hid (hB2.add hm1 hm64 (HI1.out.fr hf2) hi2 (HL1.out.ext hx2) hL2 (ofB_len _ _) (ofB_len _ _) (show LitIs σ2 F2 (-1) false from ⟨ok_neg hB2.st.c.good.ok1, hB2.st.c.good.tm1⟩) (by have := HD.out.1; have := HVC.out.1; omega) (by have := HD.out.2; have := HVC.out.2; omega))
      have HF2 := hid hf2; have HX2 := hid hx2
      clear hB2 hi2 hL2 hf2 hx2 hl2 HC3 HI1 HL1
      go_wp2_with (go_at_call 31; refine (true_any bb _).mono ?_; rintro e w' ⟨rfl, rfl⟩)
      (with_reducible refine HC4.out.mono ?_)
      rintro e w3 ⟨v3, zs3, σ3, F3, rfl, hB3, hi3, hL3, hf3, hx3⟩
      have hl3 : zs3.length = m := by rw [hL3.len, addB_len _ _ _ (by rw [ofB_len, ofB_len]), ofB_len]
      obtain ⟨p3, c3, rfl, _, _, _⟩ := hi3.opn hl3
      rw [add_ofB, ← HES.out] at hL3
      have HB3 := hid hB3; have HI3 := hid hi3; have HL3 := hid hL3; have HF3 := hid hf3; have HX3 := hid hx3
      clear hB3 hi3 hL3 hf3 hx3 hl3 HC4
      go_wp2
      go_ret2
      have hx := (HX1.out.trans HX2.out (Nat.le_refl _) (Nat.le_refl _)).trans HX3.out (Nat.le_refl _) (Nat.le_refl _)
      have q1 := HD.out.1
      have q2 := HD.out.2
      exact ⟨_, zs3, σ3, F3, rfl, HB3.out.mono (by omega) (by omega), HI3.out, HL3.out, (HF1.out.trans HF2.out).trans HF3.out, ⟨hx.good, hx.old, hx.v0, by have := hx.v1; omega, hx.c0, by have := hx.c1; omega⟩⟩

end Go.Proofs.Ytngimdbjcelkeaa

namespace Go.Proofs.Ytngimdbjcelkeaa
set_option linter.unusedSimpArgs false
set_option linter.unusedVariables false
open Go.RowKit Go.Shelf

/-! ### plain: the rows of a product -/
/-- Row i of a product. -/
def partB (m : Nat) (a : List Bool) (i : Nat) (b : Bool) : List Bool := (List.replicate i false ++ a.map (· && b)).take m
theorem partB_len {m : Nat} {a : List Bool} (ha : a.length = m) (i : Nat) (b : Bool) : (partB m a i b).length = m := by
  unfold partB; rw [List.length_take, List.length_append, List.length_replicate, List.length_map]; omega
theorem partB_get {m : Nat} {a : List Bool} (ha : a.length = m) (i : Nat) (b : Bool) (k : Nat) (hk : k < m) : (partB m a i b)[k]'(by rw [partB_len ha]; exact hk) = if h : k < i then false else (a[k - i]'(by omega) && b) := by
  unfold partB
  rw [List.getElem_take]
  split
  · rename_i h
    rw [List.getElem_append_left (by rw [List.length_replicate]; exact h), List.getElem_replicate]
  · rename_i h
    rw [List.getElem_append_right (by rw [List.length_replicate]; omega)]
    simp
theorem valB_app : ∀ (l r : List Bool), valB (l ++ r) = valB l + valB r * 2 ^ l.length
  | [], r => by simp [valB]
  | b :: l, r => by
    rw [List.cons_append, valB, valB_app l r, valB, List.length_cons, Nat.pow_succ, Nat.mul_add, ← Nat.add_assoc, Nat.mul_comm (2 ^ l.length) 2, ← Nat.mul_assoc 2, Nat.mul_comm 2 (valB r), Nat.mul_assoc]
theorem valB_false (n : Nat) : valB (List.replicate n false) = 0 := by
  induction n with
  | zero => rfl
  | succ n ih => rw [List.replicate_succ, valB, ih]; rfl
theorem valB_takeM (l : List Bool) (m : Nat) : valB (l.take m) = valB l % 2 ^ m := by
  by_cases h : m ≤ l.length
  · have e : l = l.take m ++ l.drop m := (List.take_append_drop m l).symm
    have hl : (l.take m).length = m := by rw [List.length_take]; omega
    conv => rhs; rw [e, valB_app, hl]
    rw [Nat.add_mul_mod_self_right]
    have := valB_lt (l.take m)
    rw [hl] at this
    exact (Nat.mod_eq_of_lt this).symm
  · rw [List.take_of_length_le (by omega)]
    have := valB_lt l
    have h2 : 2 ^ l.length ≤ 2 ^ m := Nat.pow_le_pow_right (by decide) (by omega)
    exact (Nat.mod_eq_of_lt (by omega)).symm
theorem valB_and (a : List Bool) (b : Bool) : valB (a.map (· && b)) = valB a * b.toNat := by
  induction a with
  | nil => simp [valB]
  | cons x a ih =>
    rw [List.map_cons, valB, ih, valB, Nat.add_mul, Nat.mul_assoc]
    cases x <;> cases b <;> rfl
theorem partB_val (m : Nat) (a : List Bool) (i : Nat) (b : Bool) : valB (partB m a i b) = (valB a * (b.toNat * 2 ^ i)) % 2 ^ m := by
  unfold partB
  rw [valB_takeM, valB_app, valB_false, Nat.zero_add, List.length_replicate, valB_and, Nat.mul_assoc]
/-- All rows of a product, from row i on. -/
def partsB (m : Nat) (a : List Bool) : Nat → List Bool → List (List Bool)
  | _, [] => []
  | i, b :: bs => partB m a i b :: partsB m a (i + 1) bs
theorem partsB_val (m : Nat) (a : List Bool) : ∀ (bs : List Bool) (i : Nat), sumV (partsB m a i bs) % 2 ^ m = (valB a * (valB bs * 2 ^ i)) % 2 ^ m
  | [], i => by simp [partsB, sumV, valB]
  | b :: bs, i => by
    rw [partsB, sumV_cons, Nat.add_mod, partsB_val m a bs (i + 1), partB_val, Nat.mod_mod, ← Nat.add_mod, ← Nat.mul_add, valB, Nat.add_mul, Nat.pow_succ, Nat.mul_comm (2 ^ i) 2, ← Nat.mul_assoc (valB bs) 2, Nat.mul_comm (valB bs) 2]
theorem partsB_snoc (m : Nat) (a : List Bool) (b : Bool) : ∀ (bs : List Bool) (i : Nat), partsB m a i (bs ++ [b]) = partsB m a i bs ++ [partB m a (i + bs.length) b]
  | [], i => by simp [partsB]
  | c :: bs, i => by rw [List.cons_append, partsB, partsB, partsB_snoc m a b bs (i + 1), List.length_cons]; simp [Nat.add_assoc, Nat.add_comm 1]
theorem partsB_mul (m : Nat) (a b : List Bool) : ofB m (sumV (partsB m a 0 b)) = ofB m (valB a * valB b) := by
  rw [← ofB_mod, partsB_val, Nat.pow_zero, Nat.mul_one, ofB_mod]

/-! ### memory -/
/-- A store into a block that came after w. -/
theorem FrB.store {bb m : Nat} {F : Form} {w wr : World} (h : FrB bb w wr) (hB : IsB wr bb F) (hm : Away bb wr m) (hw : w.heap.size ≤ m) (i : Nat) (u : Value) : FrB bb w (wr.setCell ⟨m, i, none⟩ u) := by
  obtain ⟨_, h2, h3⟩ := hB.far hm i u
  refine ⟨h2.os.trans h.os, h2.tape.trans h.tape, h2.output.trans h.output, Nat.le_trans h.size h2.size, fun k hk => ?_⟩
  have hk1 := h.keep k hk
  have hne : k ≠ m := fun e => by have := hk.size; omega
  exact ⟨h3 k hk1.1, (h2.keep k ⟨hk1.1, hne⟩).2.trans hk1.2⟩

/-- A circuit after such a store. -/
theorem Bas.store {w0 w wr : World} {bb n V K R : Nat} {vin vval : Value} {σ : Nat → Bool} {F : Form} (h : Bas w0 bb n vin vval V K wr σ F) (hm : Away bb wr R) (hf : FrB bb w wr) (ci : Ints (Away bb w) w vin (insM n)) (cv : Bools (Away bb w) w vval (valsM n σ))
    (h0 : w0.heap.size ≤ w.heap.size) (hw : w.heap.size ≤ R) (i : Nat) (u : Value) : Bas w0 bb n vin vval V K (wr.setCell ⟨R, i, none⟩ u) σ F := by
  obtain ⟨h1, h2, h3⟩ := h.st.c.b.far hm i u
  have hfw := hf.store h.st.c.b hm hw i u
  refine ⟨⟨⟨h1, h.st.c.good, ci.fr hfw, cv.fr hfw, h.st.c.n⟩, h.st.fr.setCell (show w0.heap.size ≤ (⟨R, i, none⟩ : Addr).block from Nat.le_trans h0 hw) u, fun j hj => h3 j (h.st.lo j hj)⟩, h.v, h.c⟩

/-- A row of a product under way. -/
structure MulI (w0 w wo : World) (bb n : Nat) (vin vval : Value) (V K dv dc : Nat) (σo : Nat → Bool) (Fo : Form) (B0 R m : Nat) (cs : List Value) (k : Nat) (zs : List Int) (bits : List Bool) (wr : World) (σ : Nat → Bool) (F : Form) : Prop where
  bas : Bas w0 bb n vin vval V K wr σ F
  ext : Ext n σo Fo σ F dv dc
  fr : Fr (fun q => Away bb wo q ∧ q ≠ B0) (fun q => Away bb wr q ∧ q ≠ B0) wo wr
  frw : FrB bb w wr
  b0 : Own bb wr B0 (.cells cs.toArray 23 (0, 0))
  r : Own bb wr R (.cells ((zs ++ List.replicate (m - k) 0).map (Value.int .i64)).toArray 3 (0, 0))
  ne : R ≠ B0
  zl : zs.length = k
  la : LitsAre σ F zs bits
  w1 : w.heap.size ≤ R
  w2 : wo.heap.size ≤ R
  w3 : w0.heap.size ≤ w.heap.size
  ci : Ints (Away bb w) w vin (insM n)
  cv : Bools (Away bb w) w vval (valsM n σ)

section
variable {w0 w wo wr w' : World} {bb n V K dv dc B0 R m k : Nat} {vin vval : Value} {σo σ σ' : Nat → Bool} {Fo F F' : Form} {cs : List Value} {zs : List Int} {bits : List Bool}
theorem MulI.gate {a b : Nat} (h : MulI w0 w wo bb n vin vval V K dv dc σo Fo B0 R m cs k zs bits wr σ F) (hb : Bas w0 bb n vin vval (V + a) (K + b) w' σ' F') (hf : FrB bb wr w') (hx : Ext n σ F σ' F' a b) :
    MulI w0 w wo bb n vin vval (V + a) (K + b) (dv + a) (dc + b) σo Fo B0 R m cs k zs bits w' σ' F' :=
  ⟨hb, h.ext.trans hx (Nat.le_refl _) (Nat.le_refl _), h.fr.trans (hf.weaken (fun q hq => hq.1) (fun q hq hq' => ⟨hq', hq.2⟩)), h.frw.trans hf, h.b0.fr hf, h.r.fr hf, h.ne, h.zl, h.la.ext hx, h.w1, h.w2, h.w3, h.ci, by rw [valsM_ext fun v hv => hx.old v (by have := h.bas.st.c.good.inp; omega)]; exact h.cv⟩
theorem MulI.mono {V' K' dv' dc' : Nat} (h : MulI w0 w wo bb n vin vval V K dv dc σo Fo B0 R m cs k zs bits wr σ F) (h1 : V ≤ V') (h2 : K ≤ K') (h3 : dv ≤ dv') (h4 : dc ≤ dc') : MulI w0 w wo bb n vin vval V' K' dv' dc' σo Fo B0 R m cs k zs bits wr σ F :=
  ⟨h.bas.mono h1 h2, ⟨h.ext.good, h.ext.old, h.ext.v0, by have := h.ext.v1; omega, h.ext.c0, by have := h.ext.c1; omega⟩, h.fr, h.frw, h.b0, h.r, h.ne, h.zl, h.la, h.w1, h.w2, h.w3, h.ci, h.cv⟩
theorem MulI.drew (h : MulI w0 w wo bb n vin vval V K dv dc σo Fo B0 R m cs k zs bits wr σ F) : MulI w0 w wo bb n vin vval V K dv dc σo Fo B0 R m cs k zs bits wr.drew σ F := by
  have hb : Below wr.heap.size wr wr.drew := ⟨rfl, rfl, rfl, Nat.le_refl _, fun _ _ => rfl⟩
  have := h.gate (a := 0) (b := 0) (h.bas.fr hb) (FrB.of_below h.bas.st.c.b hb) (Ext.refl h.bas.st.c.good 0 0)
  exact this
/-- The next literal is stored. -/
theorem MulI.store (h : MulI w0 w wo bb n vin vval V K dv dc σo Fo B0 R m cs k zs bits wr σ F) (hk : k < m) {z : Int} {b : Bool} (hz : LitIs σ F z b) :
    MulI w0 w wo bb n vin vval V K dv dc σo Fo B0 R m cs (k + 1) (zs ++ [z]) (bits ++ [b]) (wr.setCell ⟨R, k, none⟩ (.int .i64 z)) σ F := by
  obtain ⟨h1, h2, h3⟩ := h.bas.st.c.b.far h.r.1 k (.int .i64 z)
  have hrn : ∀ q, q ≠ R → (wr.setCell ⟨R, k, none⟩ (.int .i64 z)).heap[q]? = wr.heap[q]? := fun q hq => Below.heap_setCell _ _ _ _ hq
  have hfw : FrB bb w (wr.setCell ⟨R, k, none⟩ (.int .i64 z)) := h.frw.store h.bas.st.c.b h.r.1 h.w1 k _
  refine ⟨h.bas.store h.r.1 h.frw h.ci h.cv h.w3 h.w1 k _, h.ext, ?_, hfw, ⟨h3 _ h.b0.1, (hrn B0 (Ne.symm h.ne)).trans h.b0.2⟩, ⟨h3 _ h.r.1, ?_⟩, h.ne, by rw [List.length_append, h.zl]; rfl, ⟨?_, ?_⟩, h.w1, h.w2, h.w3, h.ci, h.cv⟩
  · refine ⟨h2.os.trans h.fr.os, h2.tape.trans h.fr.tape, h2.output.trans h.fr.output, Nat.le_trans h.fr.size h2.size, fun q hq => ?_⟩
    have hq1 := h.fr.keep q hq
    have hne : q ≠ R := fun e => by have := hq.1.size; have := h.w2; omega
    exact ⟨⟨h3 q hq1.1.1, hq1.1.2⟩, (hrn q hne).trans hq1.2⟩
  · rw [heap_set_same h.r.2]
    congr 2
    rw [List.setIfInBounds_toArray]
    congr 1
    have e : List.replicate (m - k) (0 : Int) = 0 :: List.replicate (m - (k + 1)) 0 := by
      rw [← List.replicate_succ]; congr 1; omega
    rw [e, List.map_append, List.map_cons, List.set_append_right _ _ (by rw [List.length_map, h.zl]; exact Nat.le_refl _), List.length_map, h.zl, Nat.sub_self, List.set_cons_zero]
    simp
  · intro x hx
    rcases List.mem_append.1 hx with hx | hx
    · exact h.la.1 x hx
    · simp at hx; rw [hx]; exact hz.1
  · rw [List.map_append, h.la.2]; simp [hz.2]
end

end Go.Proofs.Ytngimdbjcelkeaa

namespace Go.Proofs.Ytngimdbjcelkeaa
set_option linter.unusedSimpArgs false
set_option linter.unusedVariables false
open Go.RowKit Go.Shelf
attribute [local go_sem] Oper.semAt_some

/-- The rows of a product so far. -/
structure MulO (w0 w : World) (bb n : Nat) (vin vval : Value) (V K : Nat) (σ : Nat → Bool) (F : Form) (B0 m j : Nat) (ws : List (Value × List Int × List Bool)) (a b : List Bool) (wr : World) (σj : Nat → Bool) (Fj : Form) : Prop where
  bas : Bas w0 bb n vin vval (V + m * j) (K + 6 * (m * j)) wr σj Fj
  ext : Ext n σ F σj Fj (m * j) (6 * (m * j))
  frw : FrB bb w wr
  b0 : Own bb wr B0 (.cells (ws.map (fun x => x.1) ++ List.replicate (m - j) (Value.slice none 0 0)).toArray 23 (0, 0))
  wl : ws.length = j
  rows : ∀ x ∈ ws, Ints (fun q => Away bb wr q ∧ q ≠ B0) wr x.1 x.2.1 ∧ LitsAre σj Fj x.2.1 x.2.2
  bits : ws.map (·.2.2) = partsB m a 0 (b.take j)
  lens : ∀ x ∈ ws, x.2.2.length = m
  w1 : w.heap.size ≤ B0
  w3 : w0.heap.size ≤ w.heap.size
  ci : Ints (Away bb w) w vin (insM n)
  cv : Bools (Away bb w) w vval (valsM n σj)

section
variable {w0 w wr : World} {bb n V K B0 m j : Nat} {vin vval : Value} {σ σj σ' : Nat → Bool} {F Fj F' : Form} {ws : List (Value × List Int × List Bool)} {a b : List Bool}
/-- The next row is laid. -/
theorem MulO.start (h : MulO w0 w bb n vin vval V K σ F B0 m j ws a b wr σj Fj) (hj : j < m) (W' : World) (hW : (wr.setCell ⟨B0, j, none⟩ (.slice (some ⟨wr.heap.size, 0, none⟩) m m)).alloc (.cells (Array.replicate m (.int .i64 0)) 3) = W') :
    MulI w0 w wr bb n vin vval (V + m * j) (K + 6 * (m * j)) 0 0 σj Fj B0 wr.heap.size m (ws.map (·.1) ++ .slice (some ⟨wr.heap.size, 0, none⟩) m m :: List.replicate (m - (j + 1)) (.slice none 0 0)) 0 [] [] W' σj Fj := by
  have hb1 : Below wr.heap.size wr (wr.alloc (.cells (Array.replicate m (.int .i64 0)) 3)) := (Below.refl _ _).alloc (Nat.le_refl _) _
  have hB1 := h.bas.fr hb1
  have hf1 := FrB.of_below h.bas.st.c.b hb1
  have hbR := h.bas.st.c.b.away_new hb1 (k := wr.heap.size) (Nat.le_refl _) (by simp)
  have h01 := h.b0.fr hf1
  have hRe : (wr.alloc (.cells (Array.replicate m (.int .i64 0)) 3)).heap[wr.heap.size]? = some (.cells (Array.replicate m (.int .i64 0)) 3 (0, 0)) := by rw [heap_al, if_pos rfl]
  have hlt := h.b0.lt
  obtain ⟨g1, g2, g3⟩ := hB1.st.c.b.far h01.1 j (.slice (some ⟨wr.heap.size, 0, none⟩) m m)
  have hrn : ∀ q, q ≠ B0 → ((wr.alloc (.cells (Array.replicate m (.int .i64 0)) 3)).setCell ⟨B0, j, none⟩ (.slice (some ⟨wr.heap.size, 0, none⟩) m m)).heap[q]? = (wr.alloc (.cells (Array.replicate m (.int .i64 0)) 3)).heap[q]? := fun q hq => Below.heap_setCell _ _ _ _ hq
  have hne : wr.heap.size ≠ B0 := by omega
  have hfw := FrB.store (h.frw.trans hf1) hB1.st.c.b h01.1 h.w1 j (.slice (some ⟨wr.heap.size, 0, none⟩) m m)
  rw [← World.setCell_alloc_past _ _ _ _ hlt] at hW
  subst hW
  refine ⟨hB1.store h01.1 (h.frw.trans hf1) h.ci h.cv h.w3 h.w1 j _, Ext.refl h.bas.st.c.good 0 0, ?_, hfw, ⟨g3 _ h01.1, ?_⟩, ⟨g3 _ hbR, ?_⟩, hne, rfl, ⟨(fun x hx => by cases hx), rfl⟩, by have := h.frw.size; omega, Nat.le_refl _, h.w3, h.ci, h.cv⟩
  · refine ⟨g2.os.trans hf1.os, g2.tape.trans hf1.tape, g2.output.trans hf1.output, Nat.le_trans hf1.size g2.size, fun q hq => ?_⟩
    have hq1 := hf1.keep q hq.1
    exact ⟨⟨g3 q hq1.1, hq.2⟩, (hrn q hq.2).trans hq1.2⟩
  · rw [heap_set_same h01.2]
    congr 2
    rw [List.setIfInBounds_toArray]
    congr 1
    have e : List.replicate (m - j) (Value.slice none 0 0) = .slice none 0 0 :: List.replicate (m - (j + 1)) (.slice none 0 0) := by
      rw [← List.replicate_succ]; congr 1; omega
    rw [e, List.set_append_right _ _ (by rw [List.length_map, h.wl]; exact Nat.le_refl _), List.length_map, h.wl, Nat.sub_self, List.set_cons_zero]
  · rw [hrn _ hne, hRe]
    simp

/-- A row is done. -/
theorem MulO.next {W' : World} {wR : Nat} {zs : List Int} (h : MulO w0 w bb n vin vval V K σ F B0 m j ws a b wr σj Fj) (hj : j < m) (hm : m ≤ 64) (hb : b.length = m) (ha : a.length = m)
    (hi : MulI w0 w wr bb n vin vval (V + m * j + m) (K + 6 * (m * j) + 6 * m) m (6 * m) σj Fj B0 wr.heap.size m (ws.map (·.1) ++ .slice (some ⟨wr.heap.size, 0, none⟩) m m :: List.replicate (m - (j + 1)) (.slice none 0 0)) m zs (partB m a j (b[j]'(by omega))) W' σ' F') :
    MulO w0 w bb n vin vval V K σ F B0 m (j + 1) (ws ++ [(.slice (some ⟨wr.heap.size, 0, none⟩) m m, zs, partB m a j (b[j]'(by omega)))]) a b W' σ' F' := by
  have em : m * (j + 1) = m * j + m := Nat.mul_succ m j
  have hrow : Ints (fun q => Away bb W' q ∧ q ≠ B0) W' (.slice (some ⟨wr.heap.size, 0, none⟩) m m) zs := by
    have hr := hi.r.2
    rw [Nat.sub_self, List.replicate_zero, List.append_nil] at hr
    exact Ints.whole hi.zl.symm hr ⟨hi.r.1, hi.ne⟩ (by rw [hi.zl]; omega)
  refine ⟨by rw [em]; exact hi.bas.mono (by omega) (by omega), ?_, hi.frw, ?_, by rw [List.length_append, h.wl]; rfl, fun x hx => ?_, ?_, fun x hx => ?_, h.w1, h.w3, hi.ci, hi.cv⟩
  · have := h.ext.trans hi.ext (Nat.le_refl _) (Nat.le_refl _)
    rw [em]
    exact ⟨this.good, this.old, this.v0, by have := this.v1; omega, this.c0, by have := this.c1; omega⟩
  · rw [List.map_append, List.append_assoc]; exact hi.b0
  · rcases List.mem_append.1 hx with hx | hx
    · obtain ⟨r1, r2⟩ := h.rows x hx
      exact ⟨r1.fr hi.fr, r2.ext hi.ext⟩
    · simp only [List.mem_cons, List.not_mem_nil, or_false] at hx
      subst hx
      exact ⟨hrow, hi.la⟩
  · rw [List.map_append, h.bits, List.take_succ_eq_append_getElem (by omega), partsB_snoc, List.length_take, Nat.min_eq_left (by omega), Nat.zero_add]; rfl
  · rcases List.mem_append.1 hx with hx | hx
    · exact h.lens x hx
    · simp only [List.mem_cons, List.not_mem_nil, or_false] at hx
      subst hx
      exact partB_len ha _ _
end

end Go.Proofs.Ytngimdbjcelkeaa
