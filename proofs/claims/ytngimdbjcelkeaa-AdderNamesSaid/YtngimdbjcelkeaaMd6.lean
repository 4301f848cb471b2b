/-
  Package muldiv: division, plain; the walk of step.
  Package muldiv: the walk of step.
-/
import Derived.Test.YtngimdbjcelkeaaMd4
namespace Go.Proofs.Ytngimdbjcelkeaa
set_option linter.unusedSimpArgs false
set_option linter.unusedVariables false
open Go.RowKit Go.Shelf

/-! ### plain: division bit by bit -/
/-- The dividend's part, with the next bit. -/
def nextB (r : List Bool) (z : Bool) : List Bool := z :: r.take (r.length - 1)
def stepB (b r : List Bool) (z : Bool) : Bool × List Bool :=
  let q := r.getD (r.length - 1) false || !(lessS (nextB r z) b false)
  (q, chooseB q (addB (nextB r z) (b.map (!·)) true) (nextB r z))
theorem nextB_len (r : List Bool) (z : Bool) (h : 1 ≤ r.length) : (nextB r z).length = r.length := by
  unfold nextB; rw [List.length_cons, List.length_take]; omega
theorem nextB_val (r : List Bool) (z : Bool) (h : 1 ≤ r.length) : valB (nextB r z) + (r.getD (r.length - 1) false).toNat * 2 ^ r.length = z.toNat + 2 * valB r := by
  obtain ⟨i, a, rfl⟩ := split_last r h
  have e1 : (i ++ [a]).length - 1 = i.length := by simp
  have e2 : (i ++ [a]).getD i.length false = a := by simp
  unfold nextB
  rw [e1, e2, List.take_left' rfl, valB, valB_snoc, List.length_append, List.length_singleton, Nat.pow_succ, Nat.mul_add, Nat.mul_comm (2 ^ i.length) 2, ← Nat.mul_assoc, ← Nat.mul_assoc, Nat.mul_comm a.toNat 2]
  omega
theorem stepB_len (b r : List Bool) (z : Bool) (h : 1 ≤ r.length) (hb : b.length = r.length) : (stepB b r z).2.length = r.length := by
  unfold stepB
  simp only [chooseB]
  split
  · rw [addB_len _ _ _ (by rw [List.length_map, nextB_len r z h, hb]), nextB_len r z h]
  · exact nextB_len r z h
/-- One step divides. -/
theorem stepB_val (b r : List Bool) (z : Bool) (h : 1 ≤ r.length) (hb : b.length = r.length) (hlt : valB r < valB b) :
    (stepB b r z).1.toNat * valB b + valB (stepB b r z).2 = z.toNat + 2 * valB r ∧ valB (stepB b r z).2 < valB b := by
  have hn := nextB_val r z h
  have hnl := nextB_len r z h
  have hB := valB_lt b
  have hN := valB_lt (nextB r z)
  have hz : z.toNat ≤ 1 := by cases z <;> decide
  have hl := lessB_val (nextB r z) b false (by rw [hnl, hb])
  have hs := sub_val (nextB r z) b (by rw [hnl, hb])
  rw [hnl] at hs hN
  rw [hb] at hB
  unfold stepB lessS chooseB
  simp only [Bool.false_eq_true, if_false]
  rw [hl]
  simp only [Bool.and_false, Bool.or_false]
  cases hr : r.getD (r.length - 1) false
  · rw [hr] at hn
    simp only [Bool.toNat_false, Nat.zero_mul, Nat.add_zero] at hn
    by_cases hlt2 : valB (nextB r z) < valB b
    · simp only [hlt2, decide_true, Bool.not_true, Bool.or_false, Bool.false_eq_true, if_false, Bool.toNat_false, Nat.zero_mul, Nat.zero_add]
      exact ⟨hn, trivial⟩
    · simp only [hlt2, decide_false, Bool.not_false, Bool.or_true, if_true, Bool.toNat_true, Nat.one_mul]
      have e : valB (nextB r z) + (2 ^ r.length - 1 - valB b) + 1 = (valB (nextB r z) - valB b) + 2 ^ r.length := by omega
      rw [hs, e, Nat.add_mod_right, Nat.mod_eq_of_lt (by omega)]
      omega
  · rw [hr] at hn
    simp only [Bool.toNat_true, Nat.one_mul] at hn
    simp only [Bool.true_or, if_true, Bool.toNat_true, Nat.one_mul]
    have e : valB (nextB r z) + (2 ^ r.length - 1 - valB b) + 1 = valB (nextB r z) + 2 ^ r.length - valB b := by omega
    rw [hs, e, Nat.mod_eq_of_lt (by omega)]
    omega
/-- By zero: ones, and the dividend. -/
theorem stepB_zero (b r : List Bool) (z : Bool) (h : 1 ≤ r.length) (hb : b.length = r.length) (h0 : valB b = 0) :
    (stepB b r z).1 = true ∧ valB (stepB b r z).2 = (z.toNat + 2 * valB r) % 2 ^ r.length := by
  have hn := nextB_val r z h
  have hnl := nextB_len r z h
  have hN := valB_lt (nextB r z)
  have hl := lessB_val (nextB r z) b false (by rw [hnl, hb])
  have hs := sub_val (nextB r z) b (by rw [hnl, hb])
  rw [hnl] at hs hN
  unfold stepB lessS chooseB
  simp only [Bool.false_eq_true, if_false]
  rw [hl, h0]
  simp only [Nat.not_lt_zero, decide_false, Bool.and_false, Bool.or_false, Bool.not_false, Bool.or_true, if_true, true_and]
  have e : valB (nextB r z) + (2 ^ r.length - 1 - 0) + 1 = valB (nextB r z) + 2 ^ r.length := by omega
  rw [hs, h0, e, Nat.add_mod_right, ← hn, Nat.add_mul_mod_self_right]

/-- Quotient and rest, from the highest bit on. -/
def divB (b : List Bool) (m : Nat) (x : List Bool) : List Bool × List Bool :=
  x.foldr (fun z s => ((stepB b s.2 z).1 :: s.1, (stepB b s.2 z).2)) ([], List.replicate m false)
theorem divB_cons (b : List Bool) (m : Nat) (z : Bool) (x : List Bool) : divB b m (z :: x) = ((stepB b (divB b m x).2 z).1 :: (divB b m x).1, (stepB b (divB b m x).2 z).2) := rfl
theorem divB_len (b : List Bool) (m : Nat) (hm : 1 ≤ m) (hb : b.length = m) : ∀ x, (divB b m x).1.length = x.length ∧ (divB b m x).2.length = m
  | [] => ⟨rfl, by simp [divB]⟩
  | z :: x => by
    obtain ⟨h1, h2⟩ := divB_len b m hm hb x
    rw [divB_cons]
    exact ⟨by simp [h1], by rw [stepB_len _ _ _ (by omega) (by omega), h2]⟩
theorem divB_pos (b : List Bool) (m : Nat) (hm : 1 ≤ m) (hb : b.length = m) (h0 : 0 < valB b) : ∀ x, valB (divB b m x).1 * valB b + valB (divB b m x).2 = valB x ∧ valB (divB b m x).2 < valB b
  | [] => by simp [divB, valB, valB_false, h0]
  | z :: x => by
    obtain ⟨h1, h2⟩ := divB_pos b m hm hb h0 x
    have hl := (divB_len b m hm hb x).2
    obtain ⟨s1, s2⟩ := stepB_val b (divB b m x).2 z (by omega) (by omega) h2
    rw [divB_cons]
    refine ⟨?_, s2⟩
    simp only [valB]
    rw [Nat.add_mul, Nat.mul_assoc]
    omega
theorem divB_zero (b : List Bool) (m : Nat) (hm : 1 ≤ m) (hb : b.length = m) (h0 : valB b = 0) : ∀ x, (divB b m x).1 = List.replicate x.length true ∧ valB (divB b m x).2 = valB x % 2 ^ m
  | [] => by simp [divB, valB, valB_false]
  | z :: x => by
    obtain ⟨h1, h2⟩ := divB_zero b m hm hb h0 x
    have hl := (divB_len b m hm hb x).2
    obtain ⟨s1, s2⟩ := stepB_zero b (divB b m x).2 z (by omega) (by omega) h0
    rw [divB_cons]
    refine ⟨by simp only; rw [s1, h1, List.length_cons, List.replicate_succ], ?_⟩
    simp only
    rw [s2, hl, h2, valB, Nat.add_mod, Nat.mul_mod, Nat.mod_mod, ← Nat.mul_mod, ← Nat.add_mod]
/-- What a quotient's number is. -/
def divQ (m X B : Nat) : Nat := if B = 0 then 2 ^ m - 1 else X / B
theorem valB_true (n : Nat) : valB (List.replicate n true) = 2 ^ n - 1 := by
  induction n with
  | zero => rfl
  | succ n ih =>
    rw [List.replicate_succ, valB, ih, Nat.pow_succ]
    have : 1 ≤ 2 ^ n := Nat.one_le_two_pow
    simp only [Bool.toNat_true]
    omega
theorem divB_eq (b x : List Bool) (m : Nat) (hm : 1 ≤ m) (hb : b.length = m) (hx : x.length = m) : divB b m x = (ofB m (divQ m (valB x) (valB b)), ofB m (valB x % valB b)) := by
  obtain ⟨l1, l2⟩ := divB_len b m hm hb x
  have hX := valB_lt x
  rw [hx] at hX
  by_cases h0 : valB b = 0
  · obtain ⟨h1, h2⟩ := divB_zero b m hm hb h0 x
    refine Prod.ext (ofB_eq (by rw [l1, hx]) ?_) (ofB_eq l2 ?_)
    · rw [h1, valB_true, hx]
      unfold divQ
      rw [if_pos h0]
      have : 1 ≤ 2 ^ m := Nat.one_le_two_pow
      exact (Nat.mod_eq_of_lt (by omega)).symm
    · rw [h2, h0, Nat.mod_zero]
  · obtain ⟨h1, h2⟩ := divB_pos b m hm hb (by omega) x
    have e1 : valB (divB b m x).1 = valB x / valB b := by
      rw [← h1, Nat.mul_comm, Nat.mul_add_div (by omega), Nat.div_eq_of_lt h2, Nat.add_zero]
    have e2 : valB (divB b m x).2 = valB x % valB b := by
      rw [← h1, Nat.mul_comm, Nat.mul_add_mod, Nat.mod_eq_of_lt h2]
    refine Prod.ext (ofB_eq (by rw [l1, hx]) ?_) (ofB_eq l2 ?_)
    · rw [e1]
      unfold divQ
      rw [if_neg h0]
      exact (Nat.mod_eq_of_lt (Nat.lt_of_le_of_lt (Nat.div_le_self _ _) hX)).symm
    · rw [e2]
      exact (Nat.mod_eq_of_lt (Nat.lt_of_le_of_lt (Nat.mod_le _ _) hX)).symm

end Go.Proofs.Ytngimdbjcelkeaa

namespace Go.Proofs.Ytngimdbjcelkeaa
set_option linter.unusedSimpArgs false
set_option linter.unusedVariables false
open Go.RowKit Go.Shelf

/-- What step leaves: a literal and a word. -/
def StepP (w0 : World) (bb n : Nat) (vin vval : Value) (V K : Nat) (w : World) (σ : Nat → Bool) (F : Form) (q : Bool) (bs : List Bool) (dv dc : Nat) (e : Ending) (w' : World) : Prop :=
  ∃ z v zs σ' F', e = .returned (.tuple #[.int .i64 z, v, .int .i64 0]) ∧ Bas w0 bb n vin vval (V + dv) (K + dc) w' σ' F' ∧ Ints (Away bb w') w' v zs ∧ LitsAre σ' F' zs bs ∧ LitIs σ' F' z q ∧ FrB bb w w' ∧ Ext n σ F σ' F' dv dc

theorem LitIs.neg {σ : Nat → Bool} {F : Form} {z : Int} {b : Bool} (h : LitIs σ F z b) : LitIs σ F (-z) (!b) := ⟨ok_neg h.1, by rw [litT_neg _ (lit_ne h.1), h.2]⟩
theorem LitsAre.get {σ : Nat → Bool} {F : Form} {zs : List Int} {bs : List Bool} (h : LitsAre σ F zs bs) (k : Nat) (hk : k < zs.length) : LitIs σ F zs[k] (bs.getD k false) := by
  refine ⟨h.1 _ (List.getElem_mem hk), ?_⟩
  have hb : k < bs.length := by rw [← h.len]; exact hk
  have := List.getElem_of_eq h.2 (i := k) (by rw [List.length_map]; exact hk)
  rw [List.getElem_map] at this
  rw [this, List.getD_eq_getElem?_getD, List.getElem?_eq_getElem hb]
  rfl
theorem LitsAre.take {σ : Nat → Bool} {F : Form} {zs : List Int} {bs : List Bool} (h : LitsAre σ F zs bs) (k : Nat) : LitsAre σ F (zs.take k) (bs.take k) :=
  ⟨fun x hx => h.1 x (List.mem_of_mem_take hx), by rw [List.map_take, h.2]⟩
theorem LitsAre.cons {σ : Nat → Bool} {F : Form} {zs : List Int} {bs : List Bool} {z : Int} {b : Bool} (h : LitsAre σ F zs bs) (hz : LitIs σ F z b) : LitsAre σ F (z :: zs) (b :: bs) :=
  ⟨fun x hx => (List.mem_cons.1 hx).elim (fun e => by rw [e]; exact hz.1) (h.1 x), by rw [List.map_cons, h.2, hz.2]⟩

set_option maxRecDepth 100000 in
set_option maxHeartbeats 3200000 in
theorem step_c {w0 w : World} {bb n V K m : Nat} {vin vval vr vy : Value} {σ : Nat → Bool} {F : Form} {rs ys : List Int} {r b : List Bool} {bit : Int} {bz : Bool} (h : Bas w0 bb n vin vval V K w σ F) (h1 : 1 ≤ m) (h64 : m ≤ 64) (ir : Ints (Away bb w) w vr rs) (iy : Ints (Away bb w) w vy ys)
    (lr : LitsAre σ F rs r) (ly : LitsAre σ F ys b) (hz : LitIs σ F bit bz) (la : r.length = m) (lb : b.length = m) (hV : V + 6 * m + 1 < 1048576) (hK : K + 36 * m + 6 ≤ 1048576) :
    Calls Try.prog 103 #[.pointer (some ⟨bb, 0, none⟩), vr, vy, .int .i64 bit] w (StepP w0 bb n vin vval V K w σ F (stepB b r bz).1 (stepB b r bz).2 (6 * m + 1) (36 * m + 6)) := by
  have hrl := lr.len.trans la
  have hyl := ly.len.trans lb
  obtain ⟨pr, cr, rfl, hrc, hrm, hrr⟩ := ir.opn hrl
  obtain ⟨py, cy, rfl, _, _, hry⟩ := iy.opn hyl
  obtain ⟨l, hl, hln⟩ : ∃ l : Nat, (m : Int) - 1 = (l : Int) ∧ m - 1 = l := ⟨m - 1, by omega, rfl⟩
  have hlm : l < m := by omega
  have hlr : l < rs.length := by omega
  -- the row of the next part
  have hb1 : Below w.heap.size w (w.alloc (.cells #[.int .i64 bit] 3)) := (Below.refl _ _).alloc (Nat.le_refl _) _
  have ho1 := World.ownsRow_lit (base := w.heap.size) (e := 3) (size := 1) w #[.int .i64 bit] 1 (Nat.le_refl _) (by unfold maxLen; omega) rfl
  have hr1 : RowR (fun _ => True) (w.alloc (.cells #[.int .i64 bit] 3)) pr ((rs.take l).map (Value.int .i64)) := by
    rw [List.map_take]
    exact (hrr.take l).keep fun k hk => ⟨trivial, hb1.block k hk.size⟩
  have hcell : ∃ br ofr, pr = some ⟨br, ofr, none⟩ ∧ Away bb w br ∧ w.cell? ⟨br, ofr + l, none⟩ = some (.int .i64 (rs[l]'hlr)) := by
    obtain ⟨br, ofr, e, hA, hc⟩ := hrr.atI l (by omega)
    exact ⟨br, ofr, e, hA, hc l (by omega)⟩
  obtain ⟨br, ofr, rfl, hAr, hcl⟩ := hcell
  have hlast : LitIs σ F (rs[l]'hlr) (r.getD (r.length - 1) false) := by
    have := lr.get l (by omega)
    rw [la, hln]
    exact this
  have hnx : LitsAre σ F (bit :: rs.take l) (nextB r bz) := by
    unfold nextB
    rw [la, hln]
    exact (lr.take l).cons hz
  have hnl : (nextB r bz).length = m := by rw [nextB_len _ _ (by omega), la]
  have HH := hid h; have HIY := hid iy; have HLY := hid ly; have HLA := hid la; have HLB := hid lb; have HRL := hid hrl; have HNX := hid hnx; have HNL := hid hnl
  have HO1 := hid ho1; have HR1 := hid hr1; have HLAST := hid hlast; have HCL := hid hcl; have HAR := hid hAr; have HLN := hid hln
  clear h iy ly la lb hnx hnl ho1 hr1 hlast hcl hAr lr hrr ir hry hyl hz hb1 hln
  generalize hq : rs[l]'hlr = lastl at *
  clear hq
  generalize hqb : r.getD (r.length - 1) false = lastb at *
  have HQB := hid hqb; clear hqb
  have hTL : (rs.take l).length = l := by rw [List.length_take]; have := HRL.out; omega
  have HTL := hid hTL; clear hTL
  unfold maxLen at hrm
  go_enter Try.func103, Try.ntmps103
  go_wp2_with (at_builtin; refine wpList_app _ rfl (.tmp 21) (.tmp 24) 23 rfl w.heap.size 3 (.int .i64 0) 8 Try.underlying23 info_int rfl _ 1 _ rfl HO1.out (some ⟨br, ofr, none⟩) l cr _ rfl (by rw [List.length_map, HTL.out]) HR1.out (ints_one _) (by omega) (by unfold maxLen; omega) (by simp) ?_; intro v1 w1 ho2 hg2 _; obtain ⟨p1, c1, rfl⟩ := own_slice ho2; have HO2 := hid ho2; have HG2 := hid (show (w.alloc (.cells #[.int .i64 bit] 3)).grownBy w1 (some w.heap.size) from hg2); clear ho2 hg2)
  have hbw : Below w.heap.size w w1 := ((Below.refl _ _).alloc (Nat.le_refl _) _).grown HG2.out (by simp) (fun k hk => by cases hk; exact Nat.le_refl _)
  have hf1 := FrB.of_below HH.out.st.c.b hbw
  have hB1 := HH.out.fr hbw
  have hi1 : Ints (Away bb w1) w1 (.slice p1 (1 + l) c1) (bit :: rs.take l) := Sl.of_owns (by have := HO2.out; rw [List.singleton_append] at this; exact this) (by omega) (fun k hk => HH.out.st.c.b.away_new hbw (HO2.out.lt k hk).1 (HO2.out.lt k hk).2)
  have HC := hid (hB1.less h1 h64 hi1 (HIY.out.fr hf1) HNX.out HLY.out HNL.out HLB.out false (by omega) (by omega))
  have HI1 := hid hi1; have HF1 := hid hf1
  clear hbw hB1 hi1 hf1 HO1 HR1 HO2 HG2
  (with_reducible refine HC.out.mono ?_)
  rintro e w2 ⟨z2, σ2, F2, rfl, hB2, hl2, hf2, hx2⟩
  have hf12 := HF1.out.trans hf2
  have hcl : w2.cell? ⟨br, ofr + l, none⟩ = some (.int .i64 lastl) := (hf12.cell HAR.out).trans HCL.out
  obtain ⟨z2a, z2b⟩ := lit_i64 hB2.st.c.b.vars hl2.1
  have HC2 := hid (hB2.or (HLAST.out.ext hx2) hl2.neg (by omega) (by omega))
  have HF2 := hid hf2; have HX2 := hid hx2
  clear hB2 hl2 hf2 hx2 hf12 HC
  go_wp2_with fail
  (with_reducible refine HC2.out.mono ?_)
  rintro e w3 ⟨z3, σ3, F3, rfl, hB3, hl3, hf3, hx3⟩
  have hf13 := (HF1.out.trans HF2.out).trans hf3
  have hx23 := HX2.out.trans hx3 (Nat.le_refl _) (Nat.le_refl _)
  have HC3 := hid (hB3.sub h1 h64 ((HI1.out.fr HF2.out).fr hf3) (HIY.out.fr hf13) (HNX.out.ext hx23) (HLY.out.ext hx23) HNL.out HLB.out (by omega) (by omega))
  have HB3 := hid hB3; have HL3 := hid hl3; have HF3 := hid hf3; have HX3 := hid hx3
  clear hB3 hl3 hf3 hx3 hf13 hx23 HC2 hcl
  go_wp2_with fail
  (with_reducible refine HC3.out.mono ?_)
  rintro e w4 ⟨v4, zs4, σ4, F4, rfl, hB4, hi4, hl4, hf4, hx4⟩
  have hz4 : zs4.length = m := by rw [hl4.len, addB_len _ _ _ (by rw [List.length_map, HNL.out, HLB.out]), HNL.out]
  obtain ⟨p4, c4, rfl, _, _, _⟩ := hi4.opn hz4
  have hx24 := (HX2.out.trans HX3.out (Nat.le_refl _) (Nat.le_refl _)).trans hx4 (Nat.le_refl _) (Nat.le_refl _)
  have HC4 := hid (hB4.choose h1 h64 hi4 (((HI1.out.fr HF2.out).fr HF3.out).fr hf4) hl4 (HNX.out.ext hx24) (by rw [addB_len _ _ _ (by rw [List.length_map, HNL.out, HLB.out]), HNL.out]) HNL.out (HL3.out.ext hx4) (by omega) (by omega))
  have HL3' := hid (HL3.out.ext hx4); have HF4 := hid hf4; have HX24 := hid hx24
  clear hB4 hi4 hl4 hf4 hx4 hx24 HC3 HB3 HL3 HX3 hz4
  go_wp2_with fail
  (with_reducible refine HC4.out.mono ?_)
  rintro e w5 ⟨v5, zs5, σ5, F5, rfl, hB5, hi5, hl5, hf5, hx5⟩
  have hz5 : zs5.length = m := by
    rw [hl5.len]
    unfold chooseB
    split
    · rw [addB_len _ _ _ (by rw [List.length_map, HNL.out, HLB.out]), HNL.out]
    · exact HNL.out
  obtain ⟨p5, c5, rfl, _, _, _⟩ := hi5.opn hz5
  have hx := HX24.out.trans hx5 (Nat.le_refl _) (Nat.le_refl _)
  have hq : LitIs σ5 F5 z3 (stepB b r bz).1 := by
    have := HL3'.out.ext hx5
    unfold stepB
    rw [HQB.out]
    exact this
  have hw : LitsAre σ5 F5 zs5 (stepB b r bz).2 := by
    have := hl5
    unfold stepB
    rw [HQB.out]
    exact this
  have HFIN := hid (show StepP w0 bb n vin vval V K w σ F (stepB b r bz).1 (stepB b r bz).2 (6 * m + 1) (36 * m + 6) (.returned (.tuple #[.int .i64 z3, .slice p5 m c5, .int .i64 0])) w5 from
    ⟨z3, _, zs5, σ5, F5, rfl, hB5.mono (by omega) (by omega), hi5, hw, hq, (((HF1.out.trans HF2.out).trans HF3.out).trans HF4.out).trans hf5, ⟨hx.good, hx.old, hx.v0, by have := hx.v1; omega, hx.c0, by have := hx.c1; omega⟩⟩)
  clear hB5 hi5 hl5 hf5 hx5 hx hq hw HC4 HX24 HL3' HF4 hz5
  go_wp2
  go_ret3
  exact HFIN.out

end Go.Proofs.Ytngimdbjcelkeaa
