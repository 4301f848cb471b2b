/-
  The walks of AdderFew's closures.
-/
import Derived.Test.YtngimdbjcelkeaaKit2
namespace Go.Proofs.Ytngimdbjcelkeaa
set_option linter.unusedSimpArgs false
set_option linter.unusedVariables false
open Go.RowKit Go.Shelf

section
variable {w0 : World} {bb W : Nat} {xs ys : List Int} {ax ay : List Bool} {vin vval vx vy va vb : Value}
theorem Run.mono {V K V' K' : Nat} {w : World} {σ : Nat → Bool} {F : Form} (h : Run w0 bb W xs ys ax ay vin vval vx vy va vb V K w σ F) (h1 : V ≤ V') (h2 : K ≤ K') : Run w0 bb W xs ys ax ay vin vval vx vy va vb V' K' w σ F :=
  ⟨h.st, h.xl, h.yl, h.ox, h.oy, h.bx, h.by', h.ix, h.iy, h.ia, h.ib, Nat.le_trans h.v h1, Nat.le_trans h.c h2⟩
end

/-- What AdderFew carries: the boxes of the circuit, of both words, of the two numbers. -/
structure Few (w0 : World) (bb W : Nat) (xs ys : List Int) (ax ay : List Bool) (vin vval vx vy va vb : Value) (k5 k6 k7 k11 k3 : Nat) (lit cr : Int) (bc : Bool) (V K : Nat) (w : World) (σ : Nat → Bool) (F : Form) : Prop where
  run : Run w0 bb W xs ys ax ay vin vval vx vy va vb V K w σ F
  o5 : Own bb w k5 (.cells #[.pointer (some ⟨bb, 0, none⟩), vin, vval] 28 (0, 0))
  o6 : Own bb w k6 (.cells #[vx] 23 (0, 0))
  o7 : Own bb w k7 (.cells #[vy] 23 (0, 0))
  o11 : Own bb w k11 (.cells #[.int .i64 lit] 3 (0, 0))
  o3 : Own bb w k3 (.cells #[.int .i64 cr] 3 (0, 0))
  lit : LitIs σ F lit bc

section
variable {w0 : World} {bb W : Nat} {xs ys : List Int} {ax ay : List Bool} {vin vval vx vy va vb : Value} {k5 k6 k7 k11 k3 : Nat} {lit cr : Int} {bc : Bool} {V K : Nat} {w w' : World} {σ σ' : Nat → Bool} {F F' : Form}
theorem Few.below (h : Few w0 bb W xs ys ax ay vin vval vx vy va vb k5 k6 k7 k11 k3 lit cr bc V K w σ F) (hb : Below w.heap.size w w') : Few w0 bb W xs ys ax ay vin vval vx vy va vb k5 k6 k7 k11 k3 lit cr bc V K w' σ F :=
  have hf := FrB.of_below h.run.st.c.b hb
  ⟨h.run.fr hb, h.o5.fr hf, h.o6.fr hf, h.o7.fr hf, h.o11.fr hf, h.o3.fr hf, h.lit⟩
theorem Few.step {V' K' dv dc : Nat} (h : Few w0 bb W xs ys ax ay vin vval vx vy va vb k5 k6 k7 k11 k3 lit cr bc V K w σ F) (hr : Run w0 bb W xs ys ax ay vin vval vx vy va vb (V + dv) (K + dc) w' σ' F') (hf : FrB bb w w') (hx : Ext (2 * W) σ F σ' F' dv dc)
    (h1 : dv ≤ 3 * W) (h2 : dc ≤ 18 * W) : Few w0 bb W xs ys ax ay vin vval vx vy va vb k5 k6 k7 k11 k3 lit cr bc (V + 3 * W) (K + 18 * W) w' σ' F' :=
  ⟨hr.mono (by omega) (by omega), h.o5.fr hf, h.o6.fr hf, h.o7.fr hf, h.o11.fr hf, h.o3.fr hf, h.lit.ext hx⟩

/-- The cells that the closures read. -/
theorem Few.cells (h : Few w0 bb W xs ys ax ay vin vval vx vy va vb k5 k6 k7 k11 k3 lit cr bc V K w σ F) :
    w.cell? ⟨k5, 0, none⟩ = some (.pointer (some ⟨bb, 0, none⟩)) ∧ w.cell? ⟨k6, 0, none⟩ = some vx ∧ w.cell? ⟨k7, 0, none⟩ = some vy ∧ w.cell? ⟨k11, 0, none⟩ = some (.int .i64 lit) ∧ w.cell? ⟨k3, 0, none⟩ = some (.int .i64 cr) :=
  ⟨by rw [cell_of_cells h.o5.2]; rfl, by rw [cell_of_cells h.o6.2]; rfl, by rw [cell_of_cells h.o7.2]; rfl, by rw [cell_of_cells h.o11.2]; rfl, by rw [cell_of_cells h.o3.2]; rfl⟩
end

/-- What such a closure comes to. -/
def FewC (w0 : World) (bb W : Nat) (xs ys : List Int) (ax ay : List Bool) (vin vval vx vy va vb : Value) (k5 k6 k7 k11 k3 : Nat) (lit cr : Int) (bc : Bool) (V K : Nat) (w : World) (F : Form) (e : Ending) (w' : World) : Prop :=
  ∃ σ' F', e = .returned (.int .i64 0) ∧ Few w0 bb W xs ys ax ay vin vval vx vy va vb k5 k6 k7 k11 k3 lit cr bc (V + 3 * W) (K + 18 * W) w' σ' F' ∧ F'.vars ≤ F.vars + 16 * W ∧ F'.cls.length ≤ F.cls.length + 64 * W ∧ FrB bb w w'

section
variable {w0 : World} {bb W : Nat} {xs ys : List Int} {ax ay : List Bool} {vin vval va vb : Value} {p1 p2 : Option Addr} {c1 c2 : Nat} {k5 k6 k7 k11 k3 : Nat} {lit cr : Int} {bc : Bool} {V K : Nat} {w w' : World} {σ σ' : Nat → Bool} {F F' : Form}
  (h : Few w0 bb W xs ys ax ay vin vval (.slice p1 W c1) (.slice p2 W c2) va vb k5 k6 k7 k11 k3 lit cr bc V K w σ F) (h1 : 1 ≤ W) (h64 : W ≤ 64) (hV : V + 3 * W < 1048576) (hK : K + 18 * W ≤ 1048576)
include h h1 h64 hV hK

theorem few2_any : Calls Try.prog 52 #[.pointer (some ⟨k5, 0, none⟩), .pointer (some ⟨k6, 0, none⟩), .pointer (some ⟨k7, 0, none⟩), .pointer (some ⟨k11, 0, none⟩)] w
    (FewC w0 bb W xs ys ax ay vin vval (.slice p1 W c1) (.slice p2 W c2) va vb k5 k6 k7 k11 k3 lit cr bc V K w F) := by
  obtain ⟨d5, d6, d7, d11, d3⟩ := h.cells
  have HC := hid (h.run.add h1 h64 h.lit hV hK)
  have HH := hid h
  clear h
  go_enter Try.func52, Try.ntmps52
  go_wp2_with fail
  (with_reducible refine HC.out.mono ?_)
  rintro e w1 ⟨v1, zs1, σ1, F1, rfl, hR1, hi1, hB1, hf1, hx1⟩
  have hN := HH.out.step (V' := 0) (K' := 0) hR1 hf1 hx1 (by omega) (by omega)
  have e1 := hx1.v1
  have e2 := hx1.c1
  have HN := hid hN; have HFR := hid hf1
  clear hR1 hi1 hB1 hf1 hx1 hN HC HH d5 d6 d7 d11 d3
  go_wp2
  go_ret
  exact ⟨σ1, F1, rfl, HN.out, by omega, by omega, HFR.out⟩

theorem few3_any : Calls Try.prog 53 #[.pointer (some ⟨k5, 0, none⟩), .pointer (some ⟨k6, 0, none⟩), .pointer (some ⟨k7, 0, none⟩)] w
    (FewC w0 bb W xs ys ax ay vin vval (.slice p1 W c1) (.slice p2 W c2) va vb k5 k6 k7 k11 k3 lit cr bc V K w F) := by
  obtain ⟨d5, d6, d7, d11, d3⟩ := h.cells
  have HC := hid (h.run.sub h1 h64 hV hK)
  have HH := hid h
  clear h
  go_enter Try.func53, Try.ntmps53
  go_wp2_with fail
  (with_reducible refine HC.out.mono ?_)
  rintro e w1 ⟨v1, zs1, σ1, F1, rfl, hR1, hi1, hB1, hf1, hx1⟩
  have hN := HH.out.step (V' := 0) (K' := 0) hR1 hf1 hx1 (by omega) (by omega)
  have e1 := hx1.v1
  have e2 := hx1.c1
  have HN := hid hN; have HFR := hid hf1
  clear hR1 hi1 hB1 hf1 hx1 hN HC HH d5 d6 d7 d11 d3
  go_wp2
  go_ret
  exact ⟨σ1, F1, rfl, HN.out, by omega, by omega, HFR.out⟩

theorem few4_any : Calls Try.prog 54 #[.pointer (some ⟨k5, 0, none⟩), .pointer (some ⟨k6, 0, none⟩), .pointer (some ⟨k7, 0, none⟩)] w
    (FewC w0 bb W xs ys ax ay vin vval (.slice p1 W c1) (.slice p2 W c2) va vb k5 k6 k7 k11 k3 lit cr bc V K w F) := by
  obtain ⟨d5, d6, d7, d11, d3⟩ := h.cells
  have HC := hid (h.run.equal h1 h64 (by omega) (by omega))
  have HH := hid h
  clear h
  go_enter Try.func54, Try.ntmps54
  go_wp2_with fail
  (with_reducible refine HC.out.mono ?_)
  rintro e w1 ⟨z1, σ1, F1, rfl, hR1, hB1, hf1, hx1⟩
  have hN := HH.out.step (V' := 0) (K' := 0) hR1 hf1 hx1 (by omega) (by omega)
  have e1 := hx1.v1
  have e2 := hx1.c1
  have HN := hid hN; have HFR := hid hf1
  clear hR1 hB1 hf1 hx1 hN HC HH d5 d6 d7 d11 d3
  go_wp2
  go_ret
  exact ⟨σ1, F1, rfl, HN.out, by omega, by omega, HFR.out⟩

theorem few5_any : Calls Try.prog 55 #[.pointer (some ⟨k5, 0, none⟩), .pointer (some ⟨k6, 0, none⟩), .pointer (some ⟨k7, 0, none⟩), .pointer (some ⟨k3, 0, none⟩)] w
    (FewC w0 bb W xs ys ax ay vin vval (.slice p1 W c1) (.slice p2 W c2) va vb k5 k6 k7 k11 k3 lit cr bc V K w F) := by
  obtain ⟨d5, d6, d7, d11, d3⟩ := h.cells
  have HC := hid (fun sg => h.run.less h1 h64 sg (by omega) (by omega))
  have HH := hid h
  clear h
  go_enter Try.func55, Try.ntmps55
  go_wp2_with fail
  (with_reducible refine (HC.out _).mono ?_)
  rintro e w1 ⟨z1, σ1, F1, rfl, hR1, hB1, hf1, hx1⟩
  have hN := HH.out.step (V' := 0) (K' := 0) hR1 hf1 hx1 (by omega) (by omega)
  have e1 := hx1.v1
  have e2 := hx1.c1
  have HN := hid hN; have HFR := hid hf1
  clear hR1 hB1 hf1 hx1 hN HC HH d5 d6 d7 d11 d3
  go_wp2
  go_ret
  exact ⟨σ1, F1, rfl, HN.out, by omega, by omega, HFR.out⟩

theorem few6_any : Calls Try.prog 56 #[.pointer (some ⟨k5, 0, none⟩), .pointer (some ⟨k11, 0, none⟩), .pointer (some ⟨k6, 0, none⟩), .pointer (some ⟨k7, 0, none⟩)] w
    (FewC w0 bb W xs ys ax ay vin vval (.slice p1 W c1) (.slice p2 W c2) va vb k5 k6 k7 k11 k3 lit cr bc V K w F) := by
  obtain ⟨d5, d6, d7, d11, d3⟩ := h.cells
  have HC := hid (h.run.choose h1 h64 h.lit (by omega) (by omega))
  have HH := hid h
  clear h
  go_enter Try.func56, Try.ntmps56
  go_wp2_with fail
  (with_reducible refine HC.out.mono ?_)
  rintro e w1 ⟨v1, zs1, σ1, F1, rfl, hR1, hi1, hB1, hf1, hx1⟩
  have hN := HH.out.step (V' := 0) (K' := 0) hR1 hf1 hx1 (by omega) (by omega)
  have e1 := hx1.v1
  have e2 := hx1.c1
  have HN := hid hN; have HFR := hid hf1
  clear hR1 hi1 hB1 hf1 hx1 hN HC HH d5 d6 d7 d11 d3
  go_wp2
  go_ret
  exact ⟨σ1, F1, rfl, HN.out, by omega, by omega, HFR.out⟩

theorem few7_any : Calls Try.prog 57 #[.pointer (some ⟨k5, 0, none⟩), .pointer (some ⟨k6, 0, none⟩)] w
    (FewC w0 bb W xs ys ax ay vin vval (.slice p1 W c1) (.slice p2 W c2) va vb k5 k6 k7 k11 k3 lit cr bc V K w F) := by
  obtain ⟨d5, d6, d7, d11, d3⟩ := h.cells
  have HC := hid (h.run.any h1 h64 (by omega) (by omega))
  have HH := hid h
  clear h
  go_enter Try.func57, Try.ntmps57
  go_wp2_with fail
  (with_reducible refine HC.out.mono ?_)
  rintro e w1 ⟨z1, σ1, F1, rfl, hR1, hB1, hf1, hx1⟩
  have hN := HH.out.step (V' := 0) (K' := 0) hR1 hf1 hx1 (by omega) (by omega)
  have e1 := hx1.v1
  have e2 := hx1.c1
  have HN := hid hN; have HFR := hid hf1
  clear hR1 hB1 hf1 hx1 hN HC HH d5 d6 d7 d11 d3
  go_wp2
  go_ret
  exact ⟨σ1, F1, rfl, HN.out, by omega, by omega, HFR.out⟩

/-- 'few' of closure 2: what it adds is bounded. -/
theorem few1_2 : Calls Try.prog 51 #[.func (.func 52) #[] #[.pointer (some ⟨k5, 0, none⟩), .pointer (some ⟨k6, 0, none⟩), .pointer (some ⟨k7, 0, none⟩), .pointer (some ⟨k11, 0, none⟩)], .pointer (some ⟨k5, 0, none⟩), .pointer (some ⟨k6, 0, none⟩)] w fun e w' =>
      ∃ σ' F', e = .returned (.bool true) ∧ Few w0 bb W xs ys ax ay vin vval (.slice p1 W c1) (.slice p2 W c2) va vb k5 k6 k7 k11 k3 lit cr bc (V + 3 * W) (K + 18 * W) w' σ' F' := by
  obtain ⟨d5, d6, d7, d11, d3⟩ := h.cells
  have HFO := hid (formula_any bb F w h.run.st.c.b (good_len h.run.st.c.good))
  have HH := hid h
  clear h
  go_enter Try.func51, Try.ntmps51
  go_wp2_with fail
  (with_reducible refine HFO.out.mono ?_)
  rintro e w1 ⟨vc, rfl, hLL, hb1⟩
  obtain ⟨pc, cc, vs, rfl, _, _, _, _, _, _⟩ := hLL.op
  have h1' := HH.out.below hb1
  have hb2 : Below w1.heap.size w1 (w1.alloc (.cells #[.int .i64 F.vars, .slice pc F.cls.length cc] 52)) := (Below.refl _ _).alloc (Nat.le_refl _) _
  have h2 := h1'.below hb2
  have hfw : (w1.alloc (.cells #[.int .i64 F.vars, .slice pc F.cls.length cc] 52)).heap[w1.heap.size]? = some (.cells #[.int .i64 F.vars, .slice pc F.cls.length cc] 52 (0, 0)) := by rw [heap_al, if_pos rfl]
  have haw := h1'.run.st.c.b.away_new hb2 (k := w1.heap.size) (Nat.le_refl _) (by simp)
  have HW := hid (show Own bb _ w1.heap.size (.cells #[.int .i64 F.vars, .slice pc F.cls.length cc] 52 (0, 0)) from ⟨haw, hfw⟩)
  have HC := hid (few2_any h2 h1 h64 hV hK)
  clear hLL hb1 hb2 HFO d5 d6 d7 d11 d3 h1' h2 hfw haw
  go_wp2_with fail
  (with_reducible refine HC.out.mono ?_)
  rintro e w3 ⟨σ3, F3, rfl, hN, hv3, hc3, hf3⟩
  have HFO := hid (formula_any bb F3 w3 hN.run.st.c.b (good_len hN.run.st.c.good))
  have HW3 := hid (HW.out.fr hf3)
  obtain ⟨d5, d6, d7, d11, d3⟩ := hN.cells
  have HN := hid hN
  clear HW HC hN hf3
  go_wp2_with fail
  (with_reducible refine HFO.out.mono ?_)
  rintro e w4 ⟨vc4, rfl, hLL, hb4⟩
  obtain ⟨pc4, cc4, vs4, rfl, _, _, _, _, _, _⟩ := hLL.op
  have h4' := HN.out.below hb4
  have hb5 : Below w4.heap.size w4 (w4.alloc (.cells #[.int .i64 F3.vars, .slice pc4 F3.cls.length cc4] 52)) := (Below.refl _ _).alloc (Nat.le_refl _) _
  have h5 := h4'.below hb5
  have c5 : (w4.alloc (.cells #[.int .i64 F3.vars, .slice pc4 F3.cls.length cc4] 52)).heap[w4.heap.size]? = some (.cells #[.int .i64 F3.vars, .slice pc4 F3.cls.length cc4] 52 (0, 0)) := by rw [heap_al, if_pos rfl]
  have hW5 := (HW3.out.fr (FrB.of_below HN.out.run.st.c.b hb4)).fr (FrB.of_below h4'.run.st.c.b hb5)
  obtain ⟨g5, g6, g7, g11, g3⟩ := h5.cells
  have H5 := hid h5
  have b0 : (w4.alloc (.cells #[.int .i64 F3.vars, .slice pc4 F3.cls.length cc4] 52)).cell? ⟨w1.heap.size, 0, none⟩ = some (.int .i64 F.vars) := by rw [cell_of_cells hW5.2]; rfl
  have b1 : (w4.alloc (.cells #[.int .i64 F3.vars, .slice pc4 F3.cls.length cc4] 52)).cell? ⟨w1.heap.size, 1, none⟩ = some (.slice pc F.cls.length cc) := by rw [cell_of_cells hW5.2]; rfl
  have t1 : decide ((F3.vars : Int) ≤ (F.vars : Int) + 16 * (W : Int)) = true := by simp; omega
  have t2 : decide ((F3.cls.length : Int) ≤ (F.cls.length : Int) + 64 * (W : Int)) = true := by simp; omega
  have v1 := H5.out.run.st.c.b.vars
  have v2 := H5.out.run.st.c.b.cls
  have n1 : F.vars ≤ 1048576 := HH.out.run.st.c.b.vars
  have n2 : F.cls.length ≤ 1048576 := HH.out.run.st.c.b.cls
  clear hLL hb4 hb5 h4' h5 c5 hW5 HW3 HFO HN d5 d6 d7 d11 d3 hv3 hc3 HH
  go_wp2
  go_ret
  exact ⟨σ3, F3, rfl, H5.out⟩

/-- 'few' of closure 3: what it adds is bounded. -/
theorem few1_3 : Calls Try.prog 51 #[.func (.func 53) #[] #[.pointer (some ⟨k5, 0, none⟩), .pointer (some ⟨k6, 0, none⟩), .pointer (some ⟨k7, 0, none⟩)], .pointer (some ⟨k5, 0, none⟩), .pointer (some ⟨k6, 0, none⟩)] w fun e w' =>
      ∃ σ' F', e = .returned (.bool true) ∧ Few w0 bb W xs ys ax ay vin vval (.slice p1 W c1) (.slice p2 W c2) va vb k5 k6 k7 k11 k3 lit cr bc (V + 3 * W) (K + 18 * W) w' σ' F' := by
  obtain ⟨d5, d6, d7, d11, d3⟩ := h.cells
  have HFO := hid (formula_any bb F w h.run.st.c.b (good_len h.run.st.c.good))
  have HH := hid h
  clear h
  go_enter Try.func51, Try.ntmps51
  go_wp2_with fail
  (with_reducible refine HFO.out.mono ?_)
  rintro e w1 ⟨vc, rfl, hLL, hb1⟩
  obtain ⟨pc, cc, vs, rfl, _, _, _, _, _, _⟩ := hLL.op
  have h1' := HH.out.below hb1
  have hb2 : Below w1.heap.size w1 (w1.alloc (.cells #[.int .i64 F.vars, .slice pc F.cls.length cc] 52)) := (Below.refl _ _).alloc (Nat.le_refl _) _
  have h2 := h1'.below hb2
  have hfw : (w1.alloc (.cells #[.int .i64 F.vars, .slice pc F.cls.length cc] 52)).heap[w1.heap.size]? = some (.cells #[.int .i64 F.vars, .slice pc F.cls.length cc] 52 (0, 0)) := by rw [heap_al, if_pos rfl]
  have haw := h1'.run.st.c.b.away_new hb2 (k := w1.heap.size) (Nat.le_refl _) (by simp)
  have HW := hid (show Own bb _ w1.heap.size (.cells #[.int .i64 F.vars, .slice pc F.cls.length cc] 52 (0, 0)) from ⟨haw, hfw⟩)
  have HC := hid (few3_any h2 h1 h64 hV hK)
  clear hLL hb1 hb2 HFO d5 d6 d7 d11 d3 h1' h2 hfw haw
  go_wp2_with fail
  (with_reducible refine HC.out.mono ?_)
  rintro e w3 ⟨σ3, F3, rfl, hN, hv3, hc3, hf3⟩
  have HFO := hid (formula_any bb F3 w3 hN.run.st.c.b (good_len hN.run.st.c.good))
  have HW3 := hid (HW.out.fr hf3)
  obtain ⟨d5, d6, d7, d11, d3⟩ := hN.cells
  have HN := hid hN
  clear HW HC hN hf3
  go_wp2_with fail
  (with_reducible refine HFO.out.mono ?_)
  rintro e w4 ⟨vc4, rfl, hLL, hb4⟩
  obtain ⟨pc4, cc4, vs4, rfl, _, _, _, _, _, _⟩ := hLL.op
  have h4' := HN.out.below hb4
  have hb5 : Below w4.heap.size w4 (w4.alloc (.cells #[.int .i64 F3.vars, .slice pc4 F3.cls.length cc4] 52)) := (Below.refl _ _).alloc (Nat.le_refl _) _
  have h5 := h4'.below hb5
  have c5 : (w4.alloc (.cells #[.int .i64 F3.vars, .slice pc4 F3.cls.length cc4] 52)).heap[w4.heap.size]? = some (.cells #[.int .i64 F3.vars, .slice pc4 F3.cls.length cc4] 52 (0, 0)) := by rw [heap_al, if_pos rfl]
  have hW5 := (HW3.out.fr (FrB.of_below HN.out.run.st.c.b hb4)).fr (FrB.of_below h4'.run.st.c.b hb5)
  obtain ⟨g5, g6, g7, g11, g3⟩ := h5.cells
  have H5 := hid h5
  have b0 : (w4.alloc (.cells #[.int .i64 F3.vars, .slice pc4 F3.cls.length cc4] 52)).cell? ⟨w1.heap.size, 0, none⟩ = some (.int .i64 F.vars) := by rw [cell_of_cells hW5.2]; rfl
  have b1 : (w4.alloc (.cells #[.int .i64 F3.vars, .slice pc4 F3.cls.length cc4] 52)).cell? ⟨w1.heap.size, 1, none⟩ = some (.slice pc F.cls.length cc) := by rw [cell_of_cells hW5.2]; rfl
  have t1 : decide ((F3.vars : Int) ≤ (F.vars : Int) + 16 * (W : Int)) = true := by simp; omega
  have t2 : decide ((F3.cls.length : Int) ≤ (F.cls.length : Int) + 64 * (W : Int)) = true := by simp; omega
  have v1 := H5.out.run.st.c.b.vars
  have v2 := H5.out.run.st.c.b.cls
  have n1 : F.vars ≤ 1048576 := HH.out.run.st.c.b.vars
  have n2 : F.cls.length ≤ 1048576 := HH.out.run.st.c.b.cls
  clear hLL hb4 hb5 h4' h5 c5 hW5 HW3 HFO HN d5 d6 d7 d11 d3 hv3 hc3 HH
  go_wp2
  go_ret
  exact ⟨σ3, F3, rfl, H5.out⟩

/-- 'few' of closure 4: what it adds is bounded. -/
theorem few1_4 : Calls Try.prog 51 #[.func (.func 54) #[] #[.pointer (some ⟨k5, 0, none⟩), .pointer (some ⟨k6, 0, none⟩), .pointer (some ⟨k7, 0, none⟩)], .pointer (some ⟨k5, 0, none⟩), .pointer (some ⟨k6, 0, none⟩)] w fun e w' =>
      ∃ σ' F', e = .returned (.bool true) ∧ Few w0 bb W xs ys ax ay vin vval (.slice p1 W c1) (.slice p2 W c2) va vb k5 k6 k7 k11 k3 lit cr bc (V + 3 * W) (K + 18 * W) w' σ' F' := by
  obtain ⟨d5, d6, d7, d11, d3⟩ := h.cells
  have HFO := hid (formula_any bb F w h.run.st.c.b (good_len h.run.st.c.good))
  have HH := hid h
  clear h
  go_enter Try.func51, Try.ntmps51
  go_wp2_with fail
  (with_reducible refine HFO.out.mono ?_)
  rintro e w1 ⟨vc, rfl, hLL, hb1⟩
  obtain ⟨pc, cc, vs, rfl, _, _, _, _, _, _⟩ := hLL.op
  have h1' := HH.out.below hb1
  have hb2 : Below w1.heap.size w1 (w1.alloc (.cells #[.int .i64 F.vars, .slice pc F.cls.length cc] 52)) := (Below.refl _ _).alloc (Nat.le_refl _) _
  have h2 := h1'.below hb2
  have hfw : (w1.alloc (.cells #[.int .i64 F.vars, .slice pc F.cls.length cc] 52)).heap[w1.heap.size]? = some (.cells #[.int .i64 F.vars, .slice pc F.cls.length cc] 52 (0, 0)) := by rw [heap_al, if_pos rfl]
  have haw := h1'.run.st.c.b.away_new hb2 (k := w1.heap.size) (Nat.le_refl _) (by simp)
  have HW := hid (show Own bb _ w1.heap.size (.cells #[.int .i64 F.vars, .slice pc F.cls.length cc] 52 (0, 0)) from ⟨haw, hfw⟩)
  have HC := hid (few4_any h2 h1 h64 hV hK)
  clear hLL hb1 hb2 HFO d5 d6 d7 d11 d3 h1' h2 hfw haw
  go_wp2_with fail
  (with_reducible refine HC.out.mono ?_)
  rintro e w3 ⟨σ3, F3, rfl, hN, hv3, hc3, hf3⟩
  have HFO := hid (formula_any bb F3 w3 hN.run.st.c.b (good_len hN.run.st.c.good))
  have HW3 := hid (HW.out.fr hf3)
  obtain ⟨d5, d6, d7, d11, d3⟩ := hN.cells
  have HN := hid hN
  clear HW HC hN hf3
  go_wp2_with fail
  (with_reducible refine HFO.out.mono ?_)
  rintro e w4 ⟨vc4, rfl, hLL, hb4⟩
  obtain ⟨pc4, cc4, vs4, rfl, _, _, _, _, _, _⟩ := hLL.op
  have h4' := HN.out.below hb4
  have hb5 : Below w4.heap.size w4 (w4.alloc (.cells #[.int .i64 F3.vars, .slice pc4 F3.cls.length cc4] 52)) := (Below.refl _ _).alloc (Nat.le_refl _) _
  have h5 := h4'.below hb5
  have c5 : (w4.alloc (.cells #[.int .i64 F3.vars, .slice pc4 F3.cls.length cc4] 52)).heap[w4.heap.size]? = some (.cells #[.int .i64 F3.vars, .slice pc4 F3.cls.length cc4] 52 (0, 0)) := by rw [heap_al, if_pos rfl]
  have hW5 := (HW3.out.fr (FrB.of_below HN.out.run.st.c.b hb4)).fr (FrB.of_below h4'.run.st.c.b hb5)
  obtain ⟨g5, g6, g7, g11, g3⟩ := h5.cells
  have H5 := hid h5
  have b0 : (w4.alloc (.cells #[.int .i64 F3.vars, .slice pc4 F3.cls.length cc4] 52)).cell? ⟨w1.heap.size, 0, none⟩ = some (.int .i64 F.vars) := by rw [cell_of_cells hW5.2]; rfl
  have b1 : (w4.alloc (.cells #[.int .i64 F3.vars, .slice pc4 F3.cls.length cc4] 52)).cell? ⟨w1.heap.size, 1, none⟩ = some (.slice pc F.cls.length cc) := by rw [cell_of_cells hW5.2]; rfl
  have t1 : decide ((F3.vars : Int) ≤ (F.vars : Int) + 16 * (W : Int)) = true := by simp; omega
  have t2 : decide ((F3.cls.length : Int) ≤ (F.cls.length : Int) + 64 * (W : Int)) = true := by simp; omega
  have v1 := H5.out.run.st.c.b.vars
  have v2 := H5.out.run.st.c.b.cls
  have n1 : F.vars ≤ 1048576 := HH.out.run.st.c.b.vars
  have n2 : F.cls.length ≤ 1048576 := HH.out.run.st.c.b.cls
  clear hLL hb4 hb5 h4' h5 c5 hW5 HW3 HFO HN d5 d6 d7 d11 d3 hv3 hc3 HH
  go_wp2
  go_ret
  exact ⟨σ3, F3, rfl, H5.out⟩

/-- 'few' of closure 5: what it adds is bounded. -/
theorem few1_5 : Calls Try.prog 51 #[.func (.func 55) #[] #[.pointer (some ⟨k5, 0, none⟩), .pointer (some ⟨k6, 0, none⟩), .pointer (some ⟨k7, 0, none⟩), .pointer (some ⟨k3, 0, none⟩)], .pointer (some ⟨k5, 0, none⟩), .pointer (some ⟨k6, 0, none⟩)] w fun e w' =>
      ∃ σ' F', e = .returned (.bool true) ∧ Few w0 bb W xs ys ax ay vin vval (.slice p1 W c1) (.slice p2 W c2) va vb k5 k6 k7 k11 k3 lit cr bc (V + 3 * W) (K + 18 * W) w' σ' F' := by
  obtain ⟨d5, d6, d7, d11, d3⟩ := h.cells
  have HFO := hid (formula_any bb F w h.run.st.c.b (good_len h.run.st.c.good))
  have HH := hid h
  clear h
  go_enter Try.func51, Try.ntmps51
  go_wp2_with fail
  (with_reducible refine HFO.out.mono ?_)
  rintro e w1 ⟨vc, rfl, hLL, hb1⟩
  obtain ⟨pc, cc, vs, rfl, _, _, _, _, _, _⟩ := hLL.op
  have h1' := HH.out.below hb1
  have hb2 : Below w1.heap.size w1 (w1.alloc (.cells #[.int .i64 F.vars, .slice pc F.cls.length cc] 52)) := (Below.refl _ _).alloc (Nat.le_refl _) _
  have h2 := h1'.below hb2
  have hfw : (w1.alloc (.cells #[.int .i64 F.vars, .slice pc F.cls.length cc] 52)).heap[w1.heap.size]? = some (.cells #[.int .i64 F.vars, .slice pc F.cls.length cc] 52 (0, 0)) := by rw [heap_al, if_pos rfl]
  have haw := h1'.run.st.c.b.away_new hb2 (k := w1.heap.size) (Nat.le_refl _) (by simp)
  have HW := hid (show Own bb _ w1.heap.size (.cells #[.int .i64 F.vars, .slice pc F.cls.length cc] 52 (0, 0)) from ⟨haw, hfw⟩)
  have HC := hid (few5_any h2 h1 h64 hV hK)
  clear hLL hb1 hb2 HFO d5 d6 d7 d11 d3 h1' h2 hfw haw
  go_wp2_with fail
  (with_reducible refine HC.out.mono ?_)
  rintro e w3 ⟨σ3, F3, rfl, hN, hv3, hc3, hf3⟩
  have HFO := hid (formula_any bb F3 w3 hN.run.st.c.b (good_len hN.run.st.c.good))
  have HW3 := hid (HW.out.fr hf3)
  obtain ⟨d5, d6, d7, d11, d3⟩ := hN.cells
  have HN := hid hN
  clear HW HC hN hf3
  go_wp2_with fail
  (with_reducible refine HFO.out.mono ?_)
  rintro e w4 ⟨vc4, rfl, hLL, hb4⟩
  obtain ⟨pc4, cc4, vs4, rfl, _, _, _, _, _, _⟩ := hLL.op
  have h4' := HN.out.below hb4
  have hb5 : Below w4.heap.size w4 (w4.alloc (.cells #[.int .i64 F3.vars, .slice pc4 F3.cls.length cc4] 52)) := (Below.refl _ _).alloc (Nat.le_refl _) _
  have h5 := h4'.below hb5
  have c5 : (w4.alloc (.cells #[.int .i64 F3.vars, .slice pc4 F3.cls.length cc4] 52)).heap[w4.heap.size]? = some (.cells #[.int .i64 F3.vars, .slice pc4 F3.cls.length cc4] 52 (0, 0)) := by rw [heap_al, if_pos rfl]
  have hW5 := (HW3.out.fr (FrB.of_below HN.out.run.st.c.b hb4)).fr (FrB.of_below h4'.run.st.c.b hb5)
  obtain ⟨g5, g6, g7, g11, g3⟩ := h5.cells
  have H5 := hid h5
  have b0 : (w4.alloc (.cells #[.int .i64 F3.vars, .slice pc4 F3.cls.length cc4] 52)).cell? ⟨w1.heap.size, 0, none⟩ = some (.int .i64 F.vars) := by rw [cell_of_cells hW5.2]; rfl
  have b1 : (w4.alloc (.cells #[.int .i64 F3.vars, .slice pc4 F3.cls.length cc4] 52)).cell? ⟨w1.heap.size, 1, none⟩ = some (.slice pc F.cls.length cc) := by rw [cell_of_cells hW5.2]; rfl
  have t1 : decide ((F3.vars : Int) ≤ (F.vars : Int) + 16 * (W : Int)) = true := by simp; omega
  have t2 : decide ((F3.cls.length : Int) ≤ (F.cls.length : Int) + 64 * (W : Int)) = true := by simp; omega
  have v1 := H5.out.run.st.c.b.vars
  have v2 := H5.out.run.st.c.b.cls
  have n1 : F.vars ≤ 1048576 := HH.out.run.st.c.b.vars
  have n2 : F.cls.length ≤ 1048576 := HH.out.run.st.c.b.cls
  clear hLL hb4 hb5 h4' h5 c5 hW5 HW3 HFO HN d5 d6 d7 d11 d3 hv3 hc3 HH
  go_wp2
  go_ret
  exact ⟨σ3, F3, rfl, H5.out⟩

/-- 'few' of closure 6: what it adds is bounded. -/
theorem few1_6 : Calls Try.prog 51 #[.func (.func 56) #[] #[.pointer (some ⟨k5, 0, none⟩), .pointer (some ⟨k11, 0, none⟩), .pointer (some ⟨k6, 0, none⟩), .pointer (some ⟨k7, 0, none⟩)], .pointer (some ⟨k5, 0, none⟩), .pointer (some ⟨k6, 0, none⟩)] w fun e w' =>
      ∃ σ' F', e = .returned (.bool true) ∧ Few w0 bb W xs ys ax ay vin vval (.slice p1 W c1) (.slice p2 W c2) va vb k5 k6 k7 k11 k3 lit cr bc (V + 3 * W) (K + 18 * W) w' σ' F' := by
  obtain ⟨d5, d6, d7, d11, d3⟩ := h.cells
  have HFO := hid (formula_any bb F w h.run.st.c.b (good_len h.run.st.c.good))
  have HH := hid h
  clear h
  go_enter Try.func51, Try.ntmps51
  go_wp2_with fail
  (with_reducible refine HFO.out.mono ?_)
  rintro e w1 ⟨vc, rfl, hLL, hb1⟩
  obtain ⟨pc, cc, vs, rfl, _, _, _, _, _, _⟩ := hLL.op
  have h1' := HH.out.below hb1
  have hb2 : Below w1.heap.size w1 (w1.alloc (.cells #[.int .i64 F.vars, .slice pc F.cls.length cc] 52)) := (Below.refl _ _).alloc (Nat.le_refl _) _
  have h2 := h1'.below hb2
  have hfw : (w1.alloc (.cells #[.int .i64 F.vars, .slice pc F.cls.length cc] 52)).heap[w1.heap.size]? = some (.cells #[.int .i64 F.vars, .slice pc F.cls.length cc] 52 (0, 0)) := by rw [heap_al, if_pos rfl]
  have haw := h1'.run.st.c.b.away_new hb2 (k := w1.heap.size) (Nat.le_refl _) (by simp)
  have HW := hid (show Own bb _ w1.heap.size (.cells #[.int .i64 F.vars, .slice pc F.cls.length cc] 52 (0, 0)) from ⟨haw, hfw⟩)
  have HC := hid (few6_any h2 h1 h64 hV hK)
  clear hLL hb1 hb2 HFO d5 d6 d7 d11 d3 h1' h2 hfw haw
  go_wp2_with fail
  (with_reducible refine HC.out.mono ?_)
  rintro e w3 ⟨σ3, F3, rfl, hN, hv3, hc3, hf3⟩
  have HFO := hid (formula_any bb F3 w3 hN.run.st.c.b (good_len hN.run.st.c.good))
  have HW3 := hid (HW.out.fr hf3)
  obtain ⟨d5, d6, d7, d11, d3⟩ := hN.cells
  have HN := hid hN
  clear HW HC hN hf3
  go_wp2_with fail
  (with_reducible refine HFO.out.mono ?_)
  rintro e w4 ⟨vc4, rfl, hLL, hb4⟩
  obtain ⟨pc4, cc4, vs4, rfl, _, _, _, _, _, _⟩ := hLL.op
  have h4' := HN.out.below hb4
  have hb5 : Below w4.heap.size w4 (w4.alloc (.cells #[.int .i64 F3.vars, .slice pc4 F3.cls.length cc4] 52)) := (Below.refl _ _).alloc (Nat.le_refl _) _
  have h5 := h4'.below hb5
  have c5 : (w4.alloc (.cells #[.int .i64 F3.vars, .slice pc4 F3.cls.length cc4] 52)).heap[w4.heap.size]? = some (.cells #[.int .i64 F3.vars, .slice pc4 F3.cls.length cc4] 52 (0, 0)) := by rw [heap_al, if_pos rfl]
  have hW5 := (HW3.out.fr (FrB.of_below HN.out.run.st.c.b hb4)).fr (FrB.of_below h4'.run.st.c.b hb5)
  obtain ⟨g5, g6, g7, g11, g3⟩ := h5.cells
  have H5 := hid h5
  have b0 : (w4.alloc (.cells #[.int .i64 F3.vars, .slice pc4 F3.cls.length cc4] 52)).cell? ⟨w1.heap.size, 0, none⟩ = some (.int .i64 F.vars) := by rw [cell_of_cells hW5.2]; rfl
  have b1 : (w4.alloc (.cells #[.int .i64 F3.vars, .slice pc4 F3.cls.length cc4] 52)).cell? ⟨w1.heap.size, 1, none⟩ = some (.slice pc F.cls.length cc) := by rw [cell_of_cells hW5.2]; rfl
  have t1 : decide ((F3.vars : Int) ≤ (F.vars : Int) + 16 * (W : Int)) = true := by simp; omega
  have t2 : decide ((F3.cls.length : Int) ≤ (F.cls.length : Int) + 64 * (W : Int)) = true := by simp; omega
  have v1 := H5.out.run.st.c.b.vars
  have v2 := H5.out.run.st.c.b.cls
  have n1 : F.vars ≤ 1048576 := HH.out.run.st.c.b.vars
  have n2 : F.cls.length ≤ 1048576 := HH.out.run.st.c.b.cls
  clear hLL hb4 hb5 h4' h5 c5 hW5 HW3 HFO HN d5 d6 d7 d11 d3 hv3 hc3 HH
  go_wp2
  go_ret
  exact ⟨σ3, F3, rfl, H5.out⟩

/-- 'few' of closure 7: what it adds is bounded. -/
theorem few1_7 : Calls Try.prog 51 #[.func (.func 57) #[] #[.pointer (some ⟨k5, 0, none⟩), .pointer (some ⟨k6, 0, none⟩)], .pointer (some ⟨k5, 0, none⟩), .pointer (some ⟨k6, 0, none⟩)] w fun e w' =>
      ∃ σ' F', e = .returned (.bool true) ∧ Few w0 bb W xs ys ax ay vin vval (.slice p1 W c1) (.slice p2 W c2) va vb k5 k6 k7 k11 k3 lit cr bc (V + 3 * W) (K + 18 * W) w' σ' F' := by
  obtain ⟨d5, d6, d7, d11, d3⟩ := h.cells
  have HFO := hid (formula_any bb F w h.run.st.c.b (good_len h.run.st.c.good))
  have HH := hid h
  clear h
  go_enter Try.func51, Try.ntmps51
  go_wp2_with fail
  (with_reducible refine HFO.out.mono ?_)
  rintro e w1 ⟨vc, rfl, hLL, hb1⟩
  obtain ⟨pc, cc, vs, rfl, _, _, _, _, _, _⟩ := hLL.op
  have h1' := HH.out.below hb1
  have hb2 : Below w1.heap.size w1 (w1.alloc (.cells #[.int .i64 F.vars, .slice pc F.cls.length cc] 52)) := (Below.refl _ _).alloc (Nat.le_refl _) _
  have h2 := h1'.below hb2
  have hfw : (w1.alloc (.cells #[.int .i64 F.vars, .slice pc F.cls.length cc] 52)).heap[w1.heap.size]? = some (.cells #[.int .i64 F.vars, .slice pc F.cls.length cc] 52 (0, 0)) := by rw [heap_al, if_pos rfl]
  have haw := h1'.run.st.c.b.away_new hb2 (k := w1.heap.size) (Nat.le_refl _) (by simp)
  have HW := hid (show Own bb _ w1.heap.size (.cells #[.int .i64 F.vars, .slice pc F.cls.length cc] 52 (0, 0)) from ⟨haw, hfw⟩)
  have HC := hid (few7_any h2 h1 h64 hV hK)
  clear hLL hb1 hb2 HFO d5 d6 d7 d11 d3 h1' h2 hfw haw
  go_wp2_with fail
  (with_reducible refine HC.out.mono ?_)
  rintro e w3 ⟨σ3, F3, rfl, hN, hv3, hc3, hf3⟩
  have HFO := hid (formula_any bb F3 w3 hN.run.st.c.b (good_len hN.run.st.c.good))
  have HW3 := hid (HW.out.fr hf3)
  obtain ⟨d5, d6, d7, d11, d3⟩ := hN.cells
  have HN := hid hN
  clear HW HC hN hf3
  go_wp2_with fail
  (with_reducible refine HFO.out.mono ?_)
  rintro e w4 ⟨vc4, rfl, hLL, hb4⟩
  obtain ⟨pc4, cc4, vs4, rfl, _, _, _, _, _, _⟩ := hLL.op
  have h4' := HN.out.below hb4
  have hb5 : Below w4.heap.size w4 (w4.alloc (.cells #[.int .i64 F3.vars, .slice pc4 F3.cls.length cc4] 52)) := (Below.refl _ _).alloc (Nat.le_refl _) _
  have h5 := h4'.below hb5
  have c5 : (w4.alloc (.cells #[.int .i64 F3.vars, .slice pc4 F3.cls.length cc4] 52)).heap[w4.heap.size]? = some (.cells #[.int .i64 F3.vars, .slice pc4 F3.cls.length cc4] 52 (0, 0)) := by rw [heap_al, if_pos rfl]
  have hW5 := (HW3.out.fr (FrB.of_below HN.out.run.st.c.b hb4)).fr (FrB.of_below h4'.run.st.c.b hb5)
  obtain ⟨g5, g6, g7, g11, g3⟩ := h5.cells
  have H5 := hid h5
  have b0 : (w4.alloc (.cells #[.int .i64 F3.vars, .slice pc4 F3.cls.length cc4] 52)).cell? ⟨w1.heap.size, 0, none⟩ = some (.int .i64 F.vars) := by rw [cell_of_cells hW5.2]; rfl
  have b1 : (w4.alloc (.cells #[.int .i64 F3.vars, .slice pc4 F3.cls.length cc4] 52)).cell? ⟨w1.heap.size, 1, none⟩ = some (.slice pc F.cls.length cc) := by rw [cell_of_cells hW5.2]; rfl
  have t1 : decide ((F3.vars : Int) ≤ (F.vars : Int) + 16 * (W : Int)) = true := by simp; omega
  have t2 : decide ((F3.cls.length : Int) ≤ (F.cls.length : Int) + 64 * (W : Int)) = true := by simp; omega
  have v1 := H5.out.run.st.c.b.vars
  have v2 := H5.out.run.st.c.b.cls
  have n1 : F.vars ≤ 1048576 := HH.out.run.st.c.b.vars
  have n2 : F.cls.length ≤ 1048576 := HH.out.run.st.c.b.cls
  clear hLL hb4 hb5 h4' h5 c5 hW5 HW3 HFO HN d5 d6 d7 d11 d3 hv3 hc3 HH
  go_wp2
  go_ret
  exact ⟨σ3, F3, rfl, H5.out⟩

end

end Go.Proofs.Ytngimdbjcelkeaa
