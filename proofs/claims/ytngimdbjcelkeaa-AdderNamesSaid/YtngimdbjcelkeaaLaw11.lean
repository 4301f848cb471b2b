/-
  The walk of the law side's awake (the examples of the adder's chapter).
-/
import Derived.Test.YtngimdbjcelkeaaLaw10
import Derived.Test.YtngimdbjcelkeaaSem2
namespace Go.Proofs.Ytngimdbjcelkeaa
set_option linter.unusedSimpArgs false
set_option linter.unusedVariables false
open Go.RowKit Go.Shelf

/-- Since w0 a circuit has been made; nothing that was there has turned. -/
structure St (w0 w : World) (bb n : Nat) (σ : Nat → Bool) (F : Form) (vin vval : Value) : Prop where
  c : Circ w bb n σ F vin vval
  fr : Below w0.heap.size w0 w
  lo : ∀ j, j < w0.heap.size → Away bb w j

section
variable {w0 w w' : World} {bb n : Nat} {σ σ' : Nat → Bool} {F F' : Form} {vin vval : Value}
theorem St.step (h : St w0 w bb n σ F vin vval) (hf : FrB bb w w') (hC : Circ w' bb n σ' F' vin vval) : St w0 w' bb n σ' F' vin vval :=
  ⟨hC, ⟨hf.os.trans h.fr.os, hf.tape.trans h.fr.tape, hf.output.trans h.fr.output, Nat.le_trans h.fr.size hf.size, fun j hj => (hf.keep j (h.lo j hj)).2.trans (h.fr.block j hj)⟩, fun j hj => (hf.keep j (h.lo j hj)).1⟩
theorem St.below (h : St w0 w bb n σ F vin vval) (hb : Below w.heap.size w w') : St w0 w' bb n σ F vin vval := h.step (FrB.of_below h.c.b hb) (h.c.below hb)
theorem St.al (h : St w0 w bb n σ F vin vval) (o : Obj) : St w0 (w.alloc o) bb n σ F vin vval := h.below ((Below.refl _ _).alloc (Nat.le_refl _) o)
/-- A list that is written out. -/
theorem St.lit (h : St w0 w bb n σ F vin vval) (xs : List Int) (t : TypeId) (hl : xs.length ≤ 1024) : Ints (Away bb (w.alloc (.cells (xs.map (Value.int .i64)).toArray t))) (w.alloc (.cells (xs.map (Value.int .i64)).toArray t)) (.slice (some ⟨w.heap.size, 0, none⟩) xs.length xs.length) xs :=
  ⟨_, _, by rw [List.length_map], by rw [List.length_map]; exact Nat.le_refl _, by unfold maxLen; omega, by rw [List.length_map]; omega, h.c.b.rowNew _ _⟩
theorem St.lits2 (h : St w0 w bb n σ F vin vval) (xs ys : List Int) (t : TypeId) (hx : xs.length ≤ 1024) (hy : ys.length ≤ 1024) (W : World) (hW : (w.alloc (.cells (xs.map (Value.int .i64)).toArray t)).alloc (.cells (ys.map (Value.int .i64)).toArray t) = W) :
    St w0 W bb n σ F vin vval ∧ Ints (Away bb W) W (.slice (some ⟨w.heap.size, 0, none⟩) xs.length xs.length) xs ∧ Ints (Away bb W) W (.slice (some ⟨w.heap.size + 1, 0, none⟩) ys.length ys.length) ys ∧ FrB bb w W := by
  subst hW
  have h1 := h.al (.cells (xs.map (Value.int .i64)).toArray t)
  have h2 := h1.lit ys t hy
  rw [World.size_alloc] at h2
  have f1 := FrB.of_below h.c.b ((Below.refl _ _).alloc (Nat.le_refl _) (.cells (xs.map (Value.int .i64)).toArray t))
  have f2 := FrB.of_below h1.c.b ((Below.refl _ _).alloc (Nat.le_refl _) (.cells (ys.map (Value.int .i64)).toArray t))
  exact ⟨h1.al _, (h.lit xs t hx).fr f2, h2, f1.trans f2⟩
theorem St.keepI (h : St w0 w bb n σ F vin vval) {v : Value} {xs : List Int} (hi : Ints (Away bb w) w v xs) (o : Obj) : Ints (Away bb (w.alloc o)) (w.alloc o) v xs := hi.fr (FrB.of_below h.c.b ((Below.refl _ _).alloc (Nat.le_refl _) o))
end

theorem ext_bits {n : Nat} {σ σ' : Nat → Bool} {F F' : Form} {a b : Nat} (h : Ext n σ F σ' F' a b) {xs : List Int} (hx : ∀ x ∈ xs, okLit F.vars x = true) : xs.map (litT σ') = xs.map (litT σ) := List.map_congr_left fun x hx' => h.litT (hx x hx')
theorem ext_ok {n : Nat} {σ σ' : Nat → Bool} {F F' : Form} {a b : Nat} (h : Ext n σ F σ' F' a b) {xs : List Int} (hx : ∀ x ∈ xs, okLit F.vars x = true) : ∀ x ∈ xs, okLit F'.vars x = true := fun x hx' => h.ok (hx x hx')

set_option maxRecDepth 100000 in
set_option maxHeartbeats 3200000 in
theorem awake_any (w : World) : Calls Try.prog 30 #[] w fun e w' => e = .returned (.bool true) ∧ Below w.heap.size w w' := by
  have HSM := hid (small_any 5 3 w)
  have ev1 : valB (addB ([2, 3, 4].map (litT (sigB (smallV 5 3)))) ([5, 6, 7].map (litT (sigB (smallV 5 3)))) (litT (sigB (smallV 5 3)) 1)) = 1 := by decide
  have ev2 : valB (addB ([2, 3, 4].map (litT (sigB (smallV 5 3)))) (([5, 6, 7].map (litT (sigB (smallV 5 3)))).map (!·)) true) = 2 := by decide
  have ev3 : valB [lessS ([2, 3, 4].map (litT (sigB (smallV 5 3)))) ([5, 6, 7].map (litT (sigB (smallV 5 3)))) true] = 1 := by decide
  have EV := hid (And.intro ev1 (And.intro ev2 ev3))
  clear ev1 ev2 ev3
  generalize sigB (smallV 5 3) = σ0 at *
  go_enter Try.func30, Try.ntmps30
  go_wp2_with (go_at_call 39; refine HSM.out.mono ?_; rintro e w3 ⟨bb, vin, vval, rfl, hC, hb, hbb, hlo⟩; obtain ⟨pi, ci, rfl, _, _, _⟩ := hC.inp.opn (insM_len _); obtain ⟨pv, cv, rfl, _, _, _⟩ := hC.val.opn (valsM_len _ _); have HST := hid (St.mk hC hb hlo); clear hC hb hlo)
  have okx : ∀ x ∈ ([2, 3, 4] : List Int), okLit (7 : Nat) x = true := by decide
  have oky : ∀ x ∈ ([5, 6, 7] : List Int), okLit (7 : Nat) x = true := by decide
  have ok1 : okLit (7 : Nat) 1 = true := by decide
  have OKX := hid okx; have OKY := hid oky; have OK1 := hid ok1
  clear okx oky ok1
  -- the box of the circuit
  have hS1 := HST.out.al (.cells #[.pointer (some ⟨bb, 0, none⟩), .slice pi 6 ci, .slice pv 6 cv] 28)
  have hT1 : Away bb (w3.alloc (.cells #[.pointer (some ⟨bb, 0, none⟩), .slice pi 6 ci, .slice pv 6 cv] 28)) w3.heap.size ∧ (w3.alloc (.cells #[.pointer (some ⟨bb, 0, none⟩), .slice pi 6 ci, .slice pv 6 cv] 28)).heap[w3.heap.size]? = some (.cells #[.pointer (some ⟨bb, 0, none⟩), .slice pi 6 ci, .slice pv 6 cv] 28 (0, 0)) :=
    ⟨HST.out.c.b.away_new ((Below.refl _ _).alloc (Nat.le_refl _) _) (Nat.le_refl _) (by simp), by rw [heap_al, if_pos rfl]⟩
  have hsz1 : (w3.alloc (.cells #[.pointer (some ⟨bb, 0, none⟩), .slice pi 6 ci, .slice pv 6 cv] 28)).heap.size = w3.heap.size + 1 := by simp only [World.size_alloc]
  rw [← hsz1]
  generalize hw4 : World.alloc w3 _ = w4 at *
  have HSZ := hid hsz1
  clear hw4 hsz1
  obtain ⟨hS2, hl1, hl2, fal⟩ := hS1.lits2 [2, 3, 4] [5, 6, 7] 3 (by decide) (by decide) _ rfl
  have hadd := add_c (xs := [2, 3, 4]) (ys := [5, 6, 7]) hS2.c (by decide) (by decide) rfl OKX.out OKY.out hl1 hl2 OK1.out (by decide) (by decide)
  refine hadd.mono ?_
  rintro e w5 ⟨v1, zs1, σ1, F1, rfl, hC1, hi1, hok1, hbt1, hf1, hx1⟩
  have hlen1 : zs1.length = 3 := by have := congrArg List.length hbt1; rw [List.length_map, addB_len _ _ _ (by rfl)] at this; exact this
  obtain ⟨p1, c1, rfl, _, _, _⟩ := hi1.opn hlen1
  have hS5 := hS2.step hf1 hC1
  have fal := fal.trans hf1
  have hT5 : Away bb w5 w3.heap.size ∧ w5.heap[w3.heap.size]? = some (.cells #[.pointer (some ⟨bb, 0, none⟩), .slice pi 6 ci, .slice pv 6 cv] 28 (0, 0)) := ⟨(fal.keep _ hT1.1).1, (fal.keep _ hT1.1).2.trans hT1.2⟩
  have b0 : w5.cell? ⟨w3.heap.size, 0, none⟩ = some (.pointer (some ⟨bb, 0, none⟩)) := by rw [cell_of_cells hT5.2]; rfl
  have HS5 := hid hS5; have HT5 := hid hT5; have HI1 := hid hi1; have HOK1 := hid hok1; have HBT1 := hid hbt1; have HX1 := hid hx1; have HL1 := hid hlen1
  clear hS5 hT5 hi1 hok1 hbt1 hx1 hlen1 hC1 hf1 hS2 hS1 hT1 hadd fal HST
  go_wp2_with fail
  obtain ⟨hS6, hl1, hl2, fal⟩ := HS5.out.lits2 [2, 3, 4] [5, 6, 7] 3 (by decide) (by decide) _ rfl
  have hv1 := HX1.out.v1; have hcc1 := HX1.out.c1
  have hsub := sub_c (xs := [2, 3, 4]) (ys := [5, 6, 7]) hS6.c (by decide) (by decide) rfl (ext_ok HX1.out OKX.out) (ext_ok HX1.out OKY.out) hl1 hl2 (by simp at hv1 ⊢; omega) (by simp at hcc1 ⊢; omega)
  rw [ext_bits HX1.out OKX.out, ext_bits HX1.out OKY.out] at hsub
  refine hsub.mono ?_
  rintro e w6 ⟨v2, zs2, σ2, F2, rfl, hC2, hi2, hok2, hbt2, hf2, hx2⟩
  have hlen2 : zs2.length = 3 := by have := congrArg List.length hbt2; rw [List.length_map, addB_len _ _ _ (by rfl)] at this; exact this
  obtain ⟨p2, c2, rfl, _, _, _⟩ := hi2.opn hlen2
  have hS6' := hS6.step hf2 hC2
  have fal2 := fal.trans hf2
  have hT6 : Away bb w6 w3.heap.size ∧ w6.heap[w3.heap.size]? = some (.cells #[.pointer (some ⟨bb, 0, none⟩), .slice pi 6 ci, .slice pv 6 cv] 28 (0, 0)) := ⟨(fal2.keep _ HT5.out.1).1, (fal2.keep _ HT5.out.1).2.trans HT5.out.2⟩
  have b0' : w6.cell? ⟨w3.heap.size, 0, none⟩ = some (.pointer (some ⟨bb, 0, none⟩)) := by rw [cell_of_cells hT6.2]; rfl
  have hx12 := HX1.out.trans hx2 (Nat.le_refl _) (Nat.le_refl _)
  have hi1' := HI1.out.fr fal2
  have HS6 := hid hS6'; have HT6 := hid hT6; have HI1' := hid hi1'; have HI2 := hid hi2; have HOK2 := hid hok2; have HBT2 := hid hbt2; have HX2 := hid hx2; have HX12 := hid hx12; have HL2 := hid hlen2
  clear hS6 hS6' hT6 hi1' hi2 hok2 hbt2 hx2 hx12 hlen2 hC2 hf2 hl1 hl2 hsub fal fal2 b0 hv1 hcc1
  go_wp2_with fail
  obtain ⟨hS7, hl1, hl2, fal⟩ := HS6.out.lits2 [2, 3, 4] [5, 6, 7] 3 (by decide) (by decide) _ rfl
  have hv1 := HX12.out.v1; have hcc1 := HX12.out.c1
  have hless := less_c (xs := [2, 3, 4]) (ys := [5, 6, 7]) hS7.c (by decide) (by decide) rfl (ext_ok HX12.out OKX.out) (ext_ok HX12.out OKY.out) hl1 hl2 true (by simp at hv1 ⊢; omega) (by simp at hcc1 ⊢; omega)
  rw [ext_bits HX12.out OKX.out, ext_bits HX12.out OKY.out] at hless
  refine hless.mono ?_
  rintro e w7 ⟨z3, σ3, F3, rfl, hC3, hok3, hbt3, hf3, hx3⟩
  have hS7' := hS7.step hf3 hC3
  have fal2 := fal.trans hf3
  have hT7 : w7.heap[w3.heap.size]? = some (.cells #[.pointer (some ⟨bb, 0, none⟩), .slice pi 6 ci, .slice pv 6 cv] 28 (0, 0)) := (fal2.keep _ HT6.out.1).2.trans HT6.out.2
  have hlt7 : w3.heap.size < w7.heap.size := (Array.getElem?_eq_some_iff.1 hT7).1
  have hi1'' := HI1'.out.fr fal2
  have hi2' := HI2.out.fr fal2
  have s1 : ∀ W, Below w7.heap.size w7 W → Calls Try.prog 41 #[.agg #[.pointer (some ⟨bb, 0, none⟩), .slice pi 6 ci, .slice pv 6 cv], .int .u64 1, .int .i64 0, .slice p1 3 c1] W fun e w' => e = .returned (.bool true) ∧ Below w7.heap.size w7 w' := fun W hW => by
    have hh := hC3.below hW
    have := shows_any bb 6 σ3 F3 _ _ (.slice p1 3 c1) zs1 1 0 _ W hh (hi1''.fr (FrB.of_below hC3.b hW)) (ext_ok hx3 (ext_ok HX2.out HOK1.out)) (fun k hk => hk.size) (by rw [HL1.out]; omega)
    rw [ext_bits hx3 (ext_ok HX2.out HOK1.out), ext_bits HX2.out HOK1.out, HBT1.out, EV.out.1] at this
    exact this.mono fun e w' ⟨h1, h2⟩ => ⟨h1, below_tr hW h2⟩
  have s2 : ∀ W, Below w7.heap.size w7 W → Calls Try.prog 41 #[.agg #[.pointer (some ⟨bb, 0, none⟩), .slice pi 6 ci, .slice pv 6 cv], .int .u64 2, .int .i64 0, .slice p2 3 c2] W fun e w' => e = .returned (.bool true) ∧ Below w7.heap.size w7 w' := fun W hW => by
    have hh := hC3.below hW
    have := shows_any bb 6 σ3 F3 _ _ (.slice p2 3 c2) zs2 2 0 _ W hh (hi2'.fr (FrB.of_below hC3.b hW)) (ext_ok hx3 HOK2.out) (fun k hk => hk.size) (by rw [HL2.out]; omega)
    rw [ext_bits hx3 HOK2.out, HBT2.out, EV.out.2.1] at this
    exact this.mono fun e w' ⟨h1, h2⟩ => ⟨h1, below_tr hW h2⟩
  have s3 : ∀ W, Below w7.heap.size w7 W → Calls Try.prog 41 #[.agg #[.pointer (some ⟨bb, 0, none⟩), .slice pi 6 ci, .slice pv 6 cv], .int .u64 1, .int .i64 0, .slice (some ⟨W.heap.size, 0, none⟩) 1 1] (W.alloc (.cells #[.int .i64 z3] 3)) fun e w' => e = .returned (.bool true) ∧ Below w7.heap.size w7 w' := fun W hW => by
    have hW2 : Below w7.heap.size w7 (W.alloc (.cells #[.int .i64 z3] 3)) := hW.alloc hW.size _
    have hh := hC3.below hW2
    have hlit : Ints (Away bb (W.alloc (.cells #[.int .i64 z3] 3))) (W.alloc (.cells #[.int .i64 z3] 3)) (.slice (some ⟨W.heap.size, 0, none⟩) 1 1) [z3] := (hS7'.below hW).lit [z3] 3 (by simp)
    have := shows_any bb 6 σ3 F3 _ _ (.slice (some ⟨W.heap.size, 0, none⟩) 1 1) [z3] 1 0 _ _ hh hlit (by simpa using hok3) (fun k hk => hk.size) (by simp)
    rw [List.map_cons, List.map_nil, hbt3, EV.out.2.2] at this
    exact this.mono fun e w' ⟨h1, h2⟩ => ⟨h1, below_tr hW2 h2⟩
  have b7 : ∀ W, Below w7.heap.size w7 W → W.cell? ⟨w3.heap.size, 0, none⟩ = some (.pointer (some ⟨bb, 0, none⟩)) ∧ W.cell? ⟨w3.heap.size, 1, none⟩ = some (.slice pi 6 ci) ∧ W.cell? ⟨w3.heap.size, 2, none⟩ = some (.slice pv 6 cv) := fun W hW => by
    have := (hW.block w3.heap.size hlt7).trans hT7
    exact ⟨by rw [cell_of_cells this]; rfl, by rw [cell_of_cells this]; rfl, by rw [cell_of_cells this]; rfl⟩
  obtain ⟨k0, k1, k2⟩ := b7 w7 (Below.refl _ _)
  have HS1 := hid s1; have HS2 := hid s2; have HS3 := hid s3; have HB7 := hid b7; have HFR := hid hS7'.fr
  clear s1 s2 s3 b7 hS7 hS7' hT7 hi1'' hi2' fal fal2 hC3 hok3 hbt3 hf3 hx3 hl1 hl2 hless hv1 hcc1 b0'
  go_wp2_with (first
    | (go_at_call 41; (with_reducible refine (HS1.out w7 (Below.refl _ _)).mono ?_); rintro e w8 ⟨rfl, hb8⟩; obtain ⟨k0', k1', k2'⟩ := HB7.out w8 hb8; have HB8 := hid hb8; clear hb8)
    | (go_at_call 41; (with_reducible refine (HS2.out w8 HB8.out).mono ?_); rintro e w9 ⟨rfl, hb9⟩; obtain ⟨k0'', k1'', k2''⟩ := HB7.out w9 hb9; have HB9 := hid hb9; clear hb9)
    | (go_at_call 41; refine (HS3.out w9 HB9.out).mono ?_; rintro e w10 ⟨rfl, hb10⟩; have HB10 := hid hb10; clear hb10))
  go_ret
  exact ⟨rfl, ⟨HB10.out.os.trans HFR.out.os, HB10.out.tape.trans HFR.out.tape, HB10.out.output.trans HFR.out.output, Nat.le_trans HFR.out.size HB10.out.size, fun j hj => (HB10.out.block j (Nat.lt_of_lt_of_le hj HFR.out.size)).trans (HFR.out.block j hj)⟩⟩

end Go.Proofs.Ytngimdbjcelkeaa
