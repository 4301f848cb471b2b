/-
  A verdict's box in memory; the lines of a verdict made valid.
-/
import Derived.Test.YtehjfmbnebeioaaDoorRpI
import Derived.Test.YtehjfmbnebeioaaDoorRpE
import Derived.Test.YtehjfmbnebeioaaDoorRpB
namespace Go.Proofs.YtehjfmbnebeioaaDoor
set_option linter.unusedSimpArgs false
set_option linter.unusedVariables false
open Go.RowKit Go.Shelf
attribute [local go_sem] Oper.semAt_some

/-- A verdict's box. -/
structure VB (W : World) (g : Nat) (x : Vd) (p1 : Option Addr) (c1 : Nat) (p2 : Option Addr) (c2 : Nat) : Prop where
  c : W.heap[g]? = some (.cells #[.int .u8 (x.kind : Int), .int .u8 (x.reason : Int), .int .i64 x.level, .slice p1 x.A.length c1, .slice p2 x.B.length c2, .bool x.imp, .bool x.pol, .int .i64 x.line, .int .i64 x.col, .int .i64 x.err] 35 (0, 0))
  a : NLL (fun i => i < W.heap.size) W (.slice p1 x.A.length c1) x.A
  b : NLL (fun i => i < W.heap.size) W (.slice p2 x.B.length c2) x.B
theorem VB.lt {W : World} {g : Nat} {x : Vd} {p1 : Option Addr} {c1 : Nat} {p2 : Option Addr} {c2 : Nat} (h : VB W g x p1 c1 p2 c2) : g < W.heap.size := (Array.getElem?_eq_some_iff.1 h.c).1
theorem VB.step {W : World} {g : Nat} {x : Vd} {p1 : Option Addr} {c1 : Nat} {p2 : Option Addr} {c2 : Nat} {W' : World} (h : VB W g x p1 c1 p2 c2) (hb : Below W.heap.size W W') : VB W' g x p1 c1 p2 c2 :=
  ⟨(hb.block g h.lt).trans h.c, h.a.keep fun i hi => ⟨Nat.lt_of_lt_of_le hi hb.size, hb.block i hi⟩, h.b.keep fun i hi => ⟨Nat.lt_of_lt_of_le hi hb.size, hb.block i hi⟩⟩
/-- What the ten cells hold. -/
def Sx (g : Nat) (x : Vd) (p1 : Option Addr) (c1 : Nat) (p2 : Option Addr) (c2 : Nat) (W : World) : Prop := W.cell? ⟨g, 0, none⟩ = some (.int .u8 (x.kind : Int)) ∧ W.cell? ⟨g, 1, none⟩ = some (.int .u8 (x.reason : Int)) ∧ W.cell? ⟨g, 2, none⟩ = some (.int .i64 x.level) ∧ W.cell? ⟨g, 3, none⟩ = some (.slice p1 x.A.length c1) ∧ W.cell? ⟨g, 4, none⟩ = some (.slice p2 x.B.length c2) ∧ W.cell? ⟨g, 5, none⟩ = some (.bool x.imp) ∧ W.cell? ⟨g, 6, none⟩ = some (.bool x.pol) ∧ W.cell? ⟨g, 7, none⟩ = some (.int .i64 x.line) ∧ W.cell? ⟨g, 8, none⟩ = some (.int .i64 x.col) ∧ W.cell? ⟨g, 9, none⟩ = some (.int .i64 x.err)
theorem VB.sx {W : World} {g : Nat} {x : Vd} {p1 : Option Addr} {c1 : Nat} {p2 : Option Addr} {c2 : Nat} (h : VB W g x p1 c1 p2 c2) : Sx g x p1 c1 p2 c2 W :=
  ⟨by rw [cell_of_row W _ 0 _ _ _ h.c]; rfl, by rw [cell_of_row W _ 1 _ _ _ h.c]; rfl, by rw [cell_of_row W _ 2 _ _ _ h.c]; rfl, by rw [cell_of_row W _ 3 _ _ _ h.c]; rfl, by rw [cell_of_row W _ 4 _ _ _ h.c]; rfl, by rw [cell_of_row W _ 5 _ _ _ h.c]; rfl, by rw [cell_of_row W _ 6 _ _ _ h.c]; rfl, by rw [cell_of_row W _ 7 _ _ _ h.c]; rfl, by rw [cell_of_row W _ 8 _ _ _ h.c]; rfl, by rw [cell_of_row W _ 9 _ _ _ h.c]; rfl⟩
/-- The rows of a list lie in old blocks, or in new ones: a block that is not among them may be written. -/
theorem nll_other {R : Nat → Prop} {W W' : World} {v : Value} {l : List (List Nat)} {g : Nat} (h : NLL R W v l) (hR : ∀ i, R i → i ≠ g ∧ i < W.heap.size) (hk : ∀ j, j ≠ g → W'.heap[j]? = W.heap[j]?) (hs : W'.heap.size = W.heap.size) : NLL (fun i => i < W'.heap.size) W' v l :=
  h.keep fun i hi => ⟨by rw [hs]; exact (hR i hi).2, hk i (hR i hi).1⟩
/-- Lines of a verdict made valid. -/
theorem lines_box {W : World} {g : Nat} {x : Vd} {p1 : Option Addr} {c1 : Nat} {p2 : Option Addr} {c2 : Nat} {m c : Nat} {vl vc : Value} (h : VB W g x p1 c1 p2 c2) (ok : VdOk x) (mv : Mv m c x) (hc : c ≤ 1000) (hvl : Strs (fun i => i < W.heap.size) W vl (namesL m)) (hvc : Strs (fun i => i < W.heap.size) W vc (namesL c)) (ht : Tabs W) :
    Calls Tryd.prog 15 #[.agg #[.int .u8 (x.kind : Int), .int .u8 (x.reason : Int), .int .i64 x.level, .slice p1 x.A.length c1, .slice p2 x.B.length c2, .bool x.imp, .bool x.pol, .int .i64 x.line, .int .i64 x.col, .int .i64 x.err], vl, vc] W fun e w' => Below W.heap.size W w' ∧ ∃ p d, e = .returned (.tuple #[.slice p (vlinesR x (namesL m) (namesL c)).1.length d, .int .i64 0]) ∧ Strs (fun i => i < w'.heap.size) w' (.slice p (vlinesR x (namesL m) (namesL c)).1.length d) (vlinesR x (namesL m) (namesL c)).1 := by
  have hn : ∀ n, ∀ s ∈ namesL n, s.length ≤ 140737488355328 := by
    intro n s hs
    obtain ⟨i, _, rfl⟩ := List.mem_map.1 hs
    simp [nameL]
  refine (lines_any x p1 p2 c1 c2 (namesL m) (namesL c) vl vc (fun i => i < W.heap.size) W ok hvl hvc h.a h.b (fun i hi => hi) (hn m) (hn c) (by rw [namesL_len]; omega) ht).mono ?_
  rintro e w' ⟨hb, p, d, he, hs⟩
  rw [mv.ok (namesL m) (namesL c) (namesL_len m) (namesL_len c)] at he
  exact ⟨hb, p, d, he, hs.keep fun i hi => ⟨hi.2.size, rfl⟩⟩
theorem names_box (n : Nat) (W : World) (hn : n ≤ 100) : Calls Tryd.prog 16 #[.int .i64 (n : Int)] W fun e w' => Below W.heap.size W w' ∧ ∃ p c, e = .returned (.slice p n c) ∧ Strs (fun i => i < w'.heap.size) w' (.slice p n c) (namesL n) := by
  refine (names_any n W hn).mono ?_
  rintro e w' ⟨⟨u, rfl, hs⟩, hb⟩
  obtain ⟨p, c, rfl, _⟩ := hs.op
  rw [namesL_len] at *
  exact ⟨hb, p, c, rfl, hs.keep fun i hi => ⟨hi.2, rfl⟩⟩
theorem made_box {W : World} {g : Nat} {x : Vd} {p1 : Option Addr} {c1 : Nat} {p2 : Option Addr} {c2 : Nat} (m c : Nat) (h : VB W g x p1 c1 p2 c2) (hv : VdOk x) (hm : 1 ≤ m ∧ m ≤ 1000) (hc : c ≤ 1000) (hlA : ∀ y ∈ x.A, y.length ≤ 17592186044415) (hlB : ∀ y ∈ x.B, y.length ≤ 17592186044415) :
    Calls Tryd.prog 14 #[.agg #[.int .u8 (x.kind : Int), .int .u8 (x.reason : Int), .int .i64 x.level, .slice p1 x.A.length c1, .slice p2 x.B.length c2, .bool x.imp, .bool x.pol, .int .i64 x.line, .int .i64 x.col, .int .i64 x.err], .int .i64 (m : Int), .int .i64 (c : Int)] W (MadePost x m c W) := made_any x p1 p2 c1 c2 m c (fun i => i < W.heap.size) W hv hm hc h.a h.b (fun i hi => hi) hlA hlB
theorem made_boxV {W : World} {g : Nat} {x : Vd} {p1 : Option Addr} {c1 : Nat} {p2 : Option Addr} {c2 : Nat} (m c : Nat) (h : VB W g x p1 c1 p2 c2) (hv : VdOk x) (hm : 1 ≤ m ∧ m ≤ 1000) (hc : c ≤ 1000) (hlA : ∀ y ∈ x.A, y.length ≤ 17592186044415) (hlB : ∀ y ∈ x.B, y.length ≤ 17592186044415) (x' : Vd) (hx : madeV x m c = x') :
    Calls Tryd.prog 14 #[.agg #[.int .u8 (x.kind : Int), .int .u8 (x.reason : Int), .int .i64 x.level, .slice p1 x.A.length c1, .slice p2 x.B.length c2, .bool x.imp, .bool x.pol, .int .i64 x.line, .int .i64 x.col, .int .i64 x.err], .int .i64 (m : Int), .int .i64 (c : Int)] W fun e w' => Below W.heap.size W w' ∧ ∃ p1 c1 p2 c2, e = .returned (.agg #[.int .u8 (x'.kind : Int), .int .u8 (x'.reason : Int), .int .i64 x'.level, .slice p1 x'.A.length c1, .slice p2 x'.B.length c2, .bool x'.imp, .bool x'.pol, .int .i64 x'.line, .int .i64 x'.col, .int .i64 x'.err]) ∧ NLL (fun i => W.heap.size ≤ i ∧ i < w'.heap.size) w' (.slice p1 x'.A.length c1) x'.A ∧ NLL (fun i => W.heap.size ≤ i ∧ i < w'.heap.size) w' (.slice p2 x'.B.length c2) x'.B := by
  subst hx; exact made_box m c h hv hm hc hlA hlB
theorem lines_boxV {W : World} {g : Nat} {x : Vd} {p1 : Option Addr} {c1 : Nat} {p2 : Option Addr} {c2 : Nat} {m c : Nat} (ok : VdOk x) (mv : Mv m c x) (hc : c ≤ 1000) (l : List By) (hl : (vlinesR x (namesL m) (namesL c)).1 = l) {vl vc : Value} (h : VB W g x p1 c1 p2 c2) (hvl : Strs (fun i => i < W.heap.size) W vl (namesL m)) (hvc : Strs (fun i => i < W.heap.size) W vc (namesL c)) (ht : Tabs W) :
    Calls Tryd.prog 15 #[.agg #[.int .u8 (x.kind : Int), .int .u8 (x.reason : Int), .int .i64 x.level, .slice p1 x.A.length c1, .slice p2 x.B.length c2, .bool x.imp, .bool x.pol, .int .i64 x.line, .int .i64 x.col, .int .i64 x.err], vl, vc] W fun e w' => Below W.heap.size W w' ∧ ∃ p d, e = .returned (.tuple #[.slice p l.length d, .int .i64 0]) ∧ Strs (fun i => i < w'.heap.size) w' (.slice p l.length d) l := by
  subst hl; exact lines_box h ok mv hc hvl hvc ht
theorem vdB_eq (v u : Vd) : vdB v u = decide (v = u) := by
  obtain ⟨k, r, lv, A, B, imp, pol, ln, co, er⟩ := v
  obtain ⟨k2, r2, lv2, A2, B2, imp2, pol2, ln2, co2, er2⟩ := u
  unfold vdB witB
  dsimp only
  by_cases h : (⟨k, r, lv, A, B, imp, pol, ln, co, er⟩ : Vd) = ⟨k2, r2, lv2, A2, B2, imp2, pol2, ln2, co2, er2⟩
  · rw [decide_eq_true h]; injection h with h1 h2 h3 h4 h5 h6 h7 h8 h9 h10; subst h1 h2 h3 h4 h5 h6 h7 h8 h9 h10; simp
  · rw [decide_eq_false h]
    rw [Bool.eq_false_iff]
    intro hc
    apply h
    simp only [Bool.and_eq_true, decide_eq_true_eq] at hc
    obtain ⟨h1, h2, ⟨h3, h4, h5, h6⟩, h7, ⟨h8, h9⟩, h10⟩ := hc
    subst h1 h2 h3 h4 h5 h6 h7 h8 h9 h10
    rfl
theorem eqvd_box {W : World} {g : Nat} {x : Vd} {p1 : Option Addr} {c1 : Nat} {p2 : Option Addr} {c2 : Nat} {y : Vd} {g2 : Nat} {q1 : Option Addr} {d1 : Nat} {q2 : Option Addr} {d2 : Nat} (h : VB W g x p1 c1 p2 c2) (h2 : VB W g2 y q1 d1 q2 d2) :
    Calls Tryd.prog 18 #[.agg #[.int .u8 (x.kind : Int), .int .u8 (x.reason : Int), .int .i64 x.level, .slice p1 x.A.length c1, .slice p2 x.B.length c2, .bool x.imp, .bool x.pol, .int .i64 x.line, .int .i64 x.col, .int .i64 x.err], .agg #[.int .u8 (y.kind : Int), .int .u8 (y.reason : Int), .int .i64 y.level, .slice q1 y.A.length d1, .slice q2 y.B.length d2, .bool y.imp, .bool y.pol, .int .i64 y.line, .int .i64 y.col, .int .i64 y.err]] W fun e w' => e = .returned (.bool (decide (x = y))) ∧ Below W.heap.size W w' := by
  rw [← vdB_eq]
  exact eqvd_any x.kind y.kind x.reason y.reason x.level y.level x.A y.A x.B y.B x.imp y.imp x.pol y.pol x.line y.line x.col y.col x.err y.err p1 p2 q1 q2 c1 c2 d1 d2 _ _ W (fun i hi => hi) (fun i hi => hi) h.a h.b h2.a h2.b
/-- The box that has just been written over. -/
theorem VB.of_set {W : World} {g : Nat} {x : Vd} {p1 : Option Addr} {c1 : Nat} {p2 : Option Addr} {c2 : Nat} {y : Vd} {q1 : Option Addr} {d1 : Nat} {q2 : Option Addr} {d2 : Nat} (h : VB W g y q1 d1 q2 d2) {R1 R2 : Nat → Prop} (ha : NLL R1 W (.slice p1 x.A.length c1) x.A) (hb : NLL R2 W (.slice p2 x.B.length c2) x.B) (h1 : ∀ i, R1 i → i ≠ g ∧ i < W.heap.size) (h2 : ∀ i, R2 i → i ≠ g ∧ i < W.heap.size) {W' : World} (hW : ((((((((((W).setCell ⟨g, 0, none⟩ (.int .u8 (x.kind : Int))).setCell ⟨g, 1, none⟩ (.int .u8 (x.reason : Int))).setCell ⟨g, 2, none⟩ (.int .i64 x.level)).setCell ⟨g, 3, none⟩ (.slice p1 x.A.length c1)).setCell ⟨g, 4, none⟩ (.slice p2 x.B.length c2)).setCell ⟨g, 5, none⟩ (.bool x.imp)).setCell ⟨g, 6, none⟩ (.bool x.pol)).setCell ⟨g, 7, none⟩ (.int .i64 x.line)).setCell ⟨g, 8, none⟩ (.int .i64 x.col)).setCell ⟨g, 9, none⟩ (.int .i64 x.err) = W') :
    VB W' g x p1 c1 p2 c2 ∧ (∀ j, j ≠ g → W'.heap[j]? = W.heap[j]?) ∧ W'.heap.size = W.heap.size ∧ (∀ {B : Nat} {a : World}, Below B a W → B ≤ g → Below B a W') := by
  obtain ⟨e1, e2, e3, e4⟩ := set10 h.c (.int .u8 (x.kind : Int)) (.int .u8 (x.reason : Int)) (.int .i64 x.level) (.slice p1 x.A.length c1) (.slice p2 x.B.length c2) (.bool x.imp) (.bool x.pol) (.int .i64 x.line) (.int .i64 x.col) (.int .i64 x.err)
  rw [hW] at e1 e2 e3 e4
  exact ⟨⟨e1, nll_other ha h1 e2 e3, nll_other hb h2 e2 e3⟩, e2, e3, e4⟩
/-- Another box, behind a store. -/
theorem VB.other {W W' : World} {g g2 : Nat} {x : Vd} {p1 : Option Addr} {c1 : Nat} {p2 : Option Addr} {c2 : Nat} {R : Nat → Prop} (h : VB W g2 x p1 c1 p2 c2) (ha : NLL R W (.slice p1 x.A.length c1) x.A) (hb : NLL R W (.slice p2 x.B.length c2) x.B) (hR : ∀ i, R i → i ≠ g ∧ i < W.heap.size) (hne : g2 ≠ g) (hk : ∀ j, j ≠ g → W'.heap[j]? = W.heap[j]?) (hs : W'.heap.size = W.heap.size) : VB W' g2 x p1 c1 p2 c2 :=
  ⟨(hk g2 hne).trans h.c, nll_other ha hR hk hs, nll_other hb hR hk hs⟩
theorem below_self (w : World) : Below w.heap.size w w.drew := ⟨rfl, rfl, rfl, Nat.le_refl _, fun _ _ => rfl⟩
theorem kmod_lit (n : Int) (mm : Int) (q : Nat) (hn : -9223372036854775808 ≤ n ∧ n ≤ 9223372036854775807) (hm : 0 < mm ∧ mm ≤ 1000) (hq : n % mm = (q : Int)) (w : World) : Calls Tryd.prog 13 #[.int .i64 n, .int .i64 mm] w fun e w' => e = .returned (.int .i64 (q : Int)) ∧ w = w' := by
  rw [← hq]; exact kmod_any n mm w hn ⟨hm.1, by omega⟩

end Go.Proofs.YtehjfmbnebeioaaDoor
