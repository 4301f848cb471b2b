/-
  The walk of the law side's Make: a circuit, and two words of it.
-/
import Derived.Test.YtjcnhnifageikaaDoorLaw6
namespace Go.Proofs.YtjcnhnifageikaaDoor
set_option linter.unusedSimpArgs false
set_option linter.unusedVariables false
open Go.RowKit Go.Shelf
attribute [local go_sem] Oper.semAt_some

theorem Ints.opn {R : Nat → Prop} {w : World} {v : Value} {xs : List Int} {n : Nat} (h : Ints R w v xs) (hn : xs.length = n) :
    ∃ p c, v = .slice p n c ∧ n ≤ c ∧ c ≤ maxLen ∧ RowR R w p (xs.map (Value.int .i64)) := by
  subst hn
  obtain ⟨p, c, e, h1, h2, _, h3⟩ := h.op
  exact ⟨p, c, e, h1, h2, h3⟩
theorem Bools.opn {R : Nat → Prop} {w : World} {v : Value} {xs : List Bool} {n : Nat} (h : Bools R w v xs) (hn : xs.length = n) :
    ∃ p c, v = .slice p n c ∧ n ≤ c ∧ c ≤ maxLen ∧ RowR R w p (xs.map Value.bool) := by
  subst hn
  obtain ⟨p, c, e, h1, h2, _, h3⟩ := h.op
  exact ⟨p, c, e, h1, h2, h3⟩

/-- What Make comes to: a circuit with 2 W inputs, two words of W literals with their bits. -/
def MakeP (w : World) (W : Nat) (e : Ending) (w' : World) : Prop :=
  ∃ bb σ vin vval v1 v2 va vb xs ys, e = .returned (.tuple #[.agg #[.pointer (some ⟨bb, 0, none⟩), vin, vval], v1, v2, va, vb, .bool true]) ∧ Circ w' bb (2 * W) σ ⟨2 * W + 1, [[1]]⟩ vin vval ∧ xs.length = W ∧ ys.length = W ∧
    (∀ x ∈ xs, okLit (2 * W + 1 : Nat) x = true) ∧ (∀ x ∈ ys, okLit (2 * W + 1 : Nat) x = true) ∧ Ints (Away bb w') w' v1 xs ∧ Ints (Away bb w') w' v2 ys ∧ Bools (Away bb w') w' va (xs.map (litT σ)) ∧ Bools (Away bb w') w' vb (ys.map (litT σ)) ∧
    Below w.heap.size w w' ∧ w.heap.size ≤ bb ∧ ∀ j, j < w.heap.size → Away bb w' j

theorem setThree {w : World} {A : Nat} {a b c x y z : Value} {t : TypeId} (h : w.heap[A]? = some (.cells #[x, y, z] t (0, 0))) :
    (((w.setCell ⟨A, 0, none⟩ a).setCell ⟨A, 1, none⟩ b).setCell ⟨A, 2, none⟩ c).heap[A]? = some (.cells #[a, b, c] t (0, 0)) ∧
    w.grownBy (((w.setCell ⟨A, 0, none⟩ a).setCell ⟨A, 1, none⟩ b).setCell ⟨A, 2, none⟩ c) (some A) :=
  ⟨heap_set_same (heap_set_same (heap_set_same h _) _) _, ⟨rfl, rfl, rfl, by rw [World.size_setCell, World.size_setCell, World.size_setCell]; exact Nat.le_refl _, fun j _ hj => by
    have hne : j ≠ A := fun e => hj (by rw [e])
    exact (Below.heap_setCell _ _ _ _ hne).trans ((Below.heap_setCell _ _ _ _ hne).trans (Below.heap_setCell _ _ _ _ hne))⟩⟩

/-- What stands in memory when the circuit's box is written: at w3 the circuit, with its lists in blocks from B on. -/
structure MkS (w : World) (A bb n B : Nat) (σ : Nat → Bool) (F : Form) (vin vval : Value) (w3 : World) : Prop where
  b : IsB w3 bb F
  good : Good n σ F
  i : Ints (fun j => Away bb w3 j ∧ B ≤ j) w3 vin (insM n)
  v : Bools (fun j => Away bb w3 j ∧ B ≤ j) w3 vval (valsM n σ)
  n : n ≤ 1024
  aA : Away bb w3 A
  cA : w3.heap[A]? = some (.cells #[.pointer (some ⟨bb, 0, none⟩), vin, vval] 30 (0, 0))
  AB : A < B
  B3 : B ≤ w3.heap.size
  wA : w.heap.size ≤ A
  fr : Below w.heap.size w w3
  wb : w.heap.size ≤ bb
  lo : ∀ j, j < w.heap.size → Away bb w3 j

theorem MkS.circ {w w3 : World} {A bb n B : Nat} {σ : Nat → Bool} {F : Form} {vin vval : Value} (h : MkS w A bb n B σ F vin vval w3) : Circ w3 bb n σ F vin vval :=
  ⟨h.b, h.good, h.i.weaken fun _ hj => hj.1, h.v.weaken fun _ hj => hj.1, h.n⟩
theorem MkS.below {w w3 w4 : World} {A bb n B : Nat} {σ : Nat → Bool} {F : Form} {vin vval : Value} (h : MkS w A bb n B σ F vin vval w3) (hb : Below w3.heap.size w3 w4) : MkS w A bb n B σ F vin vval w4 := by
  have hf := FrB.of_below h.b hb
  exact ⟨h.b.below hb, h.good, h.i.keep fun j hj => ⟨⟨(hf.keep j hj.1).1, hj.2⟩, (hf.keep j hj.1).2⟩, h.v.keep fun j hj => ⟨⟨(hf.keep j hj.1).1, hj.2⟩, (hf.keep j hj.1).2⟩, h.n, (hf.keep _ h.aA).1, (hf.keep _ h.aA).2.trans h.cA, h.AB, Nat.le_trans h.B3 hb.size, h.wA,
    ⟨hb.os.trans h.fr.os, hb.tape.trans h.fr.tape, hb.output.trans h.fr.output, Nat.le_trans h.fr.size hb.size, fun j hj => (hb.block j (Nat.lt_of_lt_of_le hj h.fr.size)).trans (h.fr.block j hj)⟩, h.wb, fun j hj => (hf.keep j (h.lo j hj)).1⟩
/-- The box is written as it is. -/
theorem MkS.again {w w3 wf : World} {A bb n B : Nat} {σ : Nat → Bool} {F : Form} {vin vval : Value} (h : MkS w A bb n B σ F vin vval w3) (hg : w3.grownBy wf (some A)) (hc : wf.heap[A]? = some (.cells #[.pointer (some ⟨bb, 0, none⟩), vin, vval] 30 (0, 0))) :
    MkS w A bb n B σ F vin vval wf ∧ (∀ j, Away bb w3 j → Away bb wf j) ∧ ∀ j, j < w3.heap.size → j ≠ A → wf.heap[j]? = w3.heap[j]? := by
  obtain ⟨b, m⟩ := h.b.grown hg (fun r e => by cases e; exact h.aA)
  have hk : ∀ j, j < w3.heap.size → j ≠ A → wf.heap[j]? = w3.heap[j]? := fun j h1 h2 => hg.block j h1 (fun e => by injection e with e; exact h2 e)
  have hAB := h.AB
  have hwA := h.wA
  refine ⟨⟨b, h.good, h.i.keep fun j hj => ⟨⟨m _ hj.1, hj.2⟩, hk j hj.1.size (by omega)⟩, h.v.keep fun j hj => ⟨⟨m _ hj.1, hj.2⟩, hk j hj.1.size (by omega)⟩, h.n, m _ h.aA, hc, h.AB, Nat.le_trans h.B3 hg.size, h.wA,
    ⟨hg.os.trans h.fr.os, hg.tape.trans h.fr.tape, hg.output.trans h.fr.output, Nat.le_trans h.fr.size hg.size, fun j hj => (hk j (Nat.lt_of_lt_of_le hj h.fr.size) (by omega)).trans (h.fr.block j hj)⟩, h.wb, fun j hj => m _ (h.lo j hj)⟩, m, hk⟩

theorem insM_drop (W : Nat) : (insM (2 * W)).drop W = (List.range W).map fun (i : Nat) => ((i + W : Nat) : Int) + 2 := by
  apply List.ext_getElem
  · simp [insM]; omega
  · intro i h1 h2
    simp [insM]; omega
theorem valsM_drop (W : Nat) (σ : Nat → Bool) : (valsM (2 * W) σ).drop W = (List.range W).map fun i => σ (i + W + 2) := by
  apply List.ext_getElem
  · simp [valsM]; omega
  · intro i h1 h2
    simp [valsM]
    congr 1; omega

set_option maxRecDepth 100000 in
set_option maxHeartbeats 3200000 in
theorem make_mk (z : Int) (vals : List Bool) (lx ly : List Int) (vv vx vy : Value) (w : World) (hz : -9223372036854775808 ≤ z ∧ z ≤ 9223372036854775807)
    (hv : Bools (· < w.heap.size) w vv vals) (hx : Ints (· < w.heap.size) w vx lx) (hy : Ints (· < w.heap.size) w vy ly)
    (hlx : ∀ x ∈ lx, -9223372036854775808 ≤ x ∧ x ≤ 9223372036854775807) (hly : ∀ x ∈ ly, -9223372036854775808 ≤ x ∧ x ≤ 9223372036854775807) (W : Nat) (hW : W = (z % 64).toNat + 1) :
    Calls Tryd.prog 15 #[.agg #[.int .i64 z, vv, vx, vy]] w (MakeP w W) := by
  obtain ⟨pv, cv, rfl, _, _, hv3, _⟩ := hv.op
  obtain ⟨px, cx, rfl, _, _, hx3, _⟩ := hx.op
  obtain ⟨py, cy, rfl, _, _, hy3, _⟩ := hy.op
  have hW1 : 1 ≤ W := by omega
  have hW64 : W ≤ 64 := by omega
  obtain ⟨V, hV⟩ : ∃ V : Nat, z % 64 = (V : Int) := ⟨(z % 64).toNat, by omega⟩
  obtain rfl : W = V + 1 := by omega
  have hmod : ∀ w0, Calls Tryd.prog 16 #[.int .i64 z, .int .i64 64] w0 fun e w' => e = .returned (.int .i64 (V : Int)) ∧ w0 = w' := fun w0 => by
    have := mod_any z 64 w0 hz (by omega)
    rw [hV] at this; exact this
  have HM := hid hmod
  have hsz2 : ((w.alloc (.cells #[.int .i64 z, .slice pv vals.length cv, .slice px lx.length cx, .slice py ly.length cy] 25)).alloc (.cells #[.pointer none, .slice none 0 0, .slice none 0 0] 30)).heap.size = w.heap.size + 2 := by simp only [World.size_alloc]
  have hb2 : Below w.heap.size w ((w.alloc (.cells #[.int .i64 z, .slice pv vals.length cv, .slice px lx.length cx, .slice py ly.length cy] 25)).alloc (.cells #[.pointer none, .slice none 0 0, .slice none 0 0] 30)) := ((Below.refl _ _).alloc (Nat.le_refl _) _).alloc (by simp only [World.size_alloc]; omega) _
  have hc1 : ((w.alloc (.cells #[.int .i64 z, .slice pv vals.length cv, .slice px lx.length cx, .slice py ly.length cy] 25)).alloc (.cells #[.pointer none, .slice none 0 0, .slice none 0 0] 30)).heap[w.heap.size]? = some (.cells #[.int .i64 z, .slice pv vals.length cv, .slice px lx.length cx, .slice py ly.length cy] 25 (0, 0)) := by
    rw [heap_al, if_neg (by simp only [World.size_alloc]; omega), heap_al, if_pos rfl]
  have hc2 : ((w.alloc (.cells #[.int .i64 z, .slice pv vals.length cv, .slice px lx.length cx, .slice py ly.length cy] 25)).alloc (.cells #[.pointer none, .slice none 0 0, .slice none 0 0] 30)).heap[w.heap.size + 1]? = some (.cells #[.pointer none, .slice none 0 0, .slice none 0 0] 30 (0, 0)) := by
    rw [heap_al, if_pos (by simp only [World.size_alloc])]
  have hbeg := begin_mk (2 * (V + 1)) (.slice pv vals.length cv) vals (· < w.heap.size) ((w.alloc (.cells #[.int .i64 z, .slice pv vals.length cv, .slice px lx.length cx, .slice py ly.length cy] 25)).alloc (.cells #[.pointer none, .slice none 0 0, .slice none 0 0] 30)) (by omega)
    (fun k hk => by rw [hsz2]; omega) (hv.keep fun k hk => ⟨hk, hb2.block k hk⟩)
  rw [show ((2 * (V + 1) : Nat) : Int) = 2 * ((V : Int) + 1) from rfl] at hbeg
  have HBEG := hid hbeg; have HB2 := hid hb2; have HC1 := hid hc1; have HC2 := hid hc2; have HS2 := hid hsz2; have HX := hid hx; have HY := hid hy; have HLX := hid hlx; have HLY := hid hly
  clear hbeg hb2 hc1 hc2 hsz2 hx hy hlx hly hv hmod hW hV
  go_enter Tryd.func15, Tryd.ntmps15
  go_wp2_with (first
    | (go_at_call 16; refine (HM.out _).mono ?_; rintro e w1 ⟨rfl, rfl⟩)
    | (go_at_call 27; refine HBEG.out.mono ?_; rintro e wB ⟨bb, vin, vval, rfl, hC, hbB, hbb, hAw, hi, hva⟩; obtain ⟨pi, ci, rfl, hci, hcm, hri⟩ := hi.opn (insM_len _); obtain ⟨pw, cw, rfl, hcw, hcwm, hrw⟩ := hva.opn (valsM_len _ _); have HCB := hid hC; have HBB := hid hbB; have HBBB := hid hbb; have HAW := hid hAw; have HI := hid hi; have HVA := hid hva; have HRI := hid hri; have HRW := hid hrw; have kA1 := (hbB.block w.heap.size (by rw [HS2.out]; omega)).trans HC1.out; have kA2 := (hbB.block (w.heap.size + 1) (by rw [HS2.out]; omega)).trans HC2.out; have KA1 := hid kA1; have KA2 := hid kA2; have a0 : wB.cell? ⟨w.heap.size + 1, 0, none⟩ = some (.pointer none) := (by rw [cell_of_cells kA2]; rfl); have a1 : wB.cell? ⟨w.heap.size + 1, 1, none⟩ = some (.slice none 0 0) := (by rw [cell_of_cells kA2]; rfl); have a2 : wB.cell? ⟨w.heap.size + 1, 2, none⟩ = some (.slice none 0 0) := (by rw [cell_of_cells kA2]; rfl); have f0 : wB.frozen? ⟨w.heap.size + 1, 0, none⟩ = false := frozen_of_cells kA2; have f1 : wB.frozen? ⟨w.heap.size + 1, 1, none⟩ = false := frozen_of_cells kA2; have f2 : wB.frozen? ⟨w.heap.size + 1, 2, none⟩ = false := frozen_of_cells kA2; have b2 : wB.cell? ⟨w.heap.size, 2, none⟩ = some (.slice px lx.length cx) := (by rw [cell_of_cells kA1]; rfl); have b3 : wB.cell? ⟨w.heap.size, 3, none⟩ = some (.slice py ly.length cy) := (by rw [cell_of_cells kA1]; rfl); clear hC hbB hbb hAw hi hva hri hrw kA1 kA2))
  obtain ⟨g1, g2⟩ := setThree (a := .pointer (some ⟨bb, 0, none⟩)) (b := .slice pi (2 * (V + 1)) ci) (c := .slice pw (2 * (V + 1)) cw) KA2.out
  obtain ⟨hB3, m3⟩ := HCB.out.b.grown g2 (fun r e => by cases e; exact HAW.out _ (by rw [HS2.out]; omega))
  have hbbs := HBB.out.size
  rw [HS2.out] at hbbs
  have hk3 : ∀ j, j < wB.heap.size → j ≠ w.heap.size + 1 → (((wB.setCell ⟨w.heap.size + 1, 0, none⟩ (.pointer (some ⟨bb, 0, none⟩))).setCell ⟨w.heap.size + 1, 1, none⟩ (.slice pi (2 * (V + 1)) ci)).setCell ⟨w.heap.size + 1, 2, none⟩ (.slice pw (2 * (V + 1)) cw)).heap[j]? = wB.heap[j]? :=
    fun j h1 h2 => g2.block j h1 (fun e => by injection e with e; exact h2 e)
  have hS3 : MkS w (w.heap.size + 1) bb (2 * (V + 1)) (w.heap.size + 2) (sigB vals) ⟨2 * (V + 1) + 1, [[1]]⟩ (.slice pi (2 * (V + 1)) ci) (.slice pw (2 * (V + 1)) cw)
      (((wB.setCell ⟨w.heap.size + 1, 0, none⟩ (.pointer (some ⟨bb, 0, none⟩))).setCell ⟨w.heap.size + 1, 1, none⟩ (.slice pi (2 * (V + 1)) ci)).setCell ⟨w.heap.size + 1, 2, none⟩ (.slice pw (2 * (V + 1)) cw)) :=
    ⟨hB3, HCB.out.good, HI.out.keep fun j hj => ⟨⟨m3 _ hj.1, by have := hj.2; rw [HS2.out] at this; exact this⟩, hk3 j hj.1.size (by have := hj.2; rw [HS2.out] at this; omega)⟩,
      HVA.out.keep fun j hj => ⟨⟨m3 _ hj.1, by have := hj.2; rw [HS2.out] at this; exact this⟩, hk3 j hj.1.size (by have := hj.2; rw [HS2.out] at this; omega)⟩, by omega, m3 _ (HAW.out _ (by rw [HS2.out]; omega)), g1, by omega, Nat.le_trans (by omega) g2.size, by omega,
      ⟨g2.os.trans (HBB.out.os.trans HB2.out.os), g2.tape.trans (HBB.out.tape.trans HB2.out.tape), g2.output.trans (HBB.out.output.trans HB2.out.output), by have := g2.size; omega, fun j hj => (hk3 j (by omega) (by omega)).trans ((HBB.out.block j (by rw [HS2.out]; omega)).trans (HB2.out.block j hj))⟩,
      by have := HBBB.out; rw [HS2.out] at this; omega, fun j hj => m3 _ (HAW.out j (by rw [HS2.out]; omega))⟩
  have kA1 := (hk3 w.heap.size (by omega) (by omega)).trans KA1.out
  generalize hw3 : World.setCell (World.setCell (World.setCell wB _ _) _ _) _ _ = w3 at *
  clear hw3 g1 g2 hB3 m3 hk3 a0 a1 a2 f0 f1 f2 b2 b3
  have hx3 : Ints (· < w.heap.size) w3 (.slice px lx.length cx) lx := HX.out.keep fun j hj => ⟨hj, hS3.fr.block j hj⟩
  have hw1 := word_mk bb (2 * (V + 1)) (sigB vals) _ _ _ (V + 1) _ lx (· < w.heap.size) w3 hS3.circ (by omega) (fun j hj => by have := hS3.fr.size; omega) hx3 HLX.out
  refine hw1.mono ?_
  rintro e w4 ⟨v1, va, xs, rfl, hxl, hxo, hv1, hva1, hb4⟩
  have hS4 := hS3.below hb4
  have kA1' := (hb4.block w.heap.size (by have := hS3.B3; omega)).trans kA1
  obtain ⟨p1, c1, rfl, _, _, _⟩ := hv1.opn hxl
  obtain ⟨p2, c2, rfl, _, _, _⟩ := hva1.opn (n := V + 1) (by rw [List.length_map]; exact hxl)
  have b3 : w4.cell? ⟨w.heap.size, 3, none⟩ = some (.slice py ly.length cy) := by rw [cell_of_cells kA1']; rfl
  have a0 : w4.cell? ⟨w.heap.size + 1, 0, none⟩ = some (.pointer (some ⟨bb, 0, none⟩)) := by rw [cell_of_cells hS4.cA]; rfl
  have a1 : w4.cell? ⟨w.heap.size + 1, 1, none⟩ = some (.slice pi (2 * (V + 1)) ci) := by rw [cell_of_cells hS4.cA]; rfl
  have a2 : w4.cell? ⟨w.heap.size + 1, 2, none⟩ = some (.slice pw (2 * (V + 1)) cw) := by rw [cell_of_cells hS4.cA]; rfl
  have HS3 := hid hS3; have HS4 := hid hS4; have HXL := hid hxl; have HXO := hid hxo; have HV1 := hid hv1; have HVA1 := hid hva1; have HB4 := hid hb4
  clear hS3 hS4 hxl hxo hv1 hva1 hb4 hx3 hw1 kA1 kA1' hbbs
  -- the end
  have hfin : ∀ w5 v2 vb ys wf, Below w4.heap.size w4 w5 → ys.length = V + 1 → (∀ x ∈ ys, okLit (2 * (V + 1) + 1 : Nat) x = true) → Ints (New w4 w5) w5 v2 ys → Bools (New w4 w5) w5 vb (ys.map (litT (sigB vals))) → w5.grownBy wf (some (w.heap.size + 1)) →
      wf.heap[w.heap.size + 1]? = some (.cells #[.pointer (some ⟨bb, 0, none⟩), .slice pi (2 * (V + 1)) ci, .slice pw (2 * (V + 1)) cw] 30 (0, 0)) →
      MakeP w (V + 1) (.returned (.tuple #[.agg #[.pointer (some ⟨bb, 0, none⟩), .slice pi (2 * (V + 1)) ci, .slice pw (2 * (V + 1)) cw], .slice p1 (V + 1) c1, v2, .slice p2 (V + 1) c2, vb, .bool true])) wf := fun w5 v2 vb ys wf hb5 hyl hyo hv2 hvb hg hc => by
    have hS5 := HS4.out.below hb5
    obtain ⟨hSf, mf, hkf⟩ := hS5.again hg hc
    have h34 := HB4.out.size
    have hB3 := HS3.out.B3
    have hB4 := HS4.out.B3
    have old : ∀ j, New w3 w4 j → Away bb wf j ∧ wf.heap[j]? = w4.heap[j]? := fun j hj => by
      have hA4 := HS3.out.b.away_new HB4.out hj.1 hj.2
      exact ⟨mf _ ((FrB.of_below HS4.out.b hb5).keep j hA4).1, (hkf j (Nat.lt_of_lt_of_le hj.2 hb5.size) (by have := hj.1; omega)).trans (hb5.block j hj.2)⟩
    have new : ∀ j, New w4 w5 j → Away bb wf j ∧ wf.heap[j]? = w5.heap[j]? := fun j hj => ⟨mf _ (HS4.out.b.away_new hb5 hj.1 hj.2), hkf j hj.2 (by have := hj.1; omega)⟩
    exact ⟨bb, sigB vals, _, _, _, _, _, _, xs, ys, rfl, hSf.circ, HXL.out, hyl, HXO.out, hyo, HV1.out.keep old, hv2.keep new, HVA1.out.keep old, hvb.keep new, hSf.fr, hSf.wb, hSf.lo⟩
  have HFIN := hid hfin
  clear hfin
  by_cases hy0 : 0 < ly.length
  · have hd : decide ((0 : Int) < (ly.length : Int)) = true := decide_eq_true (by omega)
    have hw2 := word_mk bb (2 * (V + 1)) (sigB vals) _ _ _ (V + 1) _ ly (· < w.heap.size) w4 HS4.out.circ (by omega) (fun j hj => by have := HS4.out.fr.size; omega) (HY.out.keep fun j hj => ⟨hj, HS4.out.fr.block j hj⟩) HLY.out
    have HW2 := hid hw2
    clear hw2
    go_wp2_with (go_at_call 28; refine HW2.out.mono ?_; rintro e w5 ⟨v2, vb, ys, rfl, hyl, hyo, hv2, hvb, hb5⟩; obtain ⟨p3, c3, rfl, _, _, _⟩ := hv2.opn hyl; obtain ⟨p4, c4, rfl, _, _, _⟩ := hvb.opn (n := V + 1) (by rw [List.length_map]; exact hyl); have hS5 := HS4.out.below hb5; have HYL := hid hyl; have HYO := hid hyo; have HV2 := hid hv2; have HVB := hid hvb; have HB5 := hid hb5; have HS5 := hid hS5; have d0 : w5.cell? ⟨w.heap.size + 1, 0, none⟩ = some (.pointer (some ⟨bb, 0, none⟩)) := (by rw [cell_of_cells hS5.cA]; rfl); have d1 : w5.cell? ⟨w.heap.size + 1, 1, none⟩ = some (.slice pi (2 * (V + 1)) ci) := (by rw [cell_of_cells hS5.cA]; rfl); have d2 : w5.cell? ⟨w.heap.size + 1, 2, none⟩ = some (.slice pw (2 * (V + 1)) cw) := (by rw [cell_of_cells hS5.cA]; rfl); have e0 : w5.frozen? ⟨w.heap.size + 1, 0, none⟩ = false := frozen_of_cells hS5.cA; have e1 : w5.frozen? ⟨w.heap.size + 1, 1, none⟩ = false := frozen_of_cells hS5.cA; have e2 : w5.frozen? ⟨w.heap.size + 1, 2, none⟩ = false := frozen_of_cells hS5.cA; clear hyl hyo hv2 hvb hb5 hS5)
    obtain ⟨g1, g2⟩ := setThree (a := .pointer (some ⟨bb, 0, none⟩)) (b := .slice pi (2 * (V + 1)) ci) (c := .slice pw (2 * (V + 1)) cw) HS5.out.cA
    have hF := HFIN.out w5 _ _ ys _ HB5.out HYL.out HYO.out HV2.out HVB.out g2 g1
    generalize hwf : World.setCell (World.setCell (World.setCell w5 _ _) _ _) _ _ = wf at *
    have cf0 : wf.cell? ⟨w.heap.size + 1, 0, none⟩ = some (.pointer (some ⟨bb, 0, none⟩)) := by rw [cell_of_cells g1]; rfl
    have cf1 : wf.cell? ⟨w.heap.size + 1, 1, none⟩ = some (.slice pi (2 * (V + 1)) ci) := by rw [cell_of_cells g1]; rfl
    have cf2 : wf.cell? ⟨w.heap.size + 1, 2, none⟩ = some (.slice pw (2 * (V + 1)) cw) := by rw [cell_of_cells g1]; rfl
    exact bodyPost_ret (v := .tuple #[.agg #[.pointer (some ⟨bb, 0, none⟩), .slice pi (2 * (V + 1)) ci, .slice pw (2 * (V + 1)) cw], .slice p1 (V + 1) c1, .slice p3 (V + 1) c3, .slice p2 (V + 1) c2, .slice p4 (V + 1) c4, .bool true]) (by simp [results, Tryd.results15, go_sem, cf0, cf1, cf2]) rfl hF
  · have hd : decide ((0 : Int) < (ly.length : Int)) = false := decide_eq_false (by omega)
    obtain ⟨pi', ci', ei, _, _, _, hri⟩ := HS4.out.i.op
    obtain ⟨pw', cw', ew, _, _, _, hrw⟩ := HS4.out.v.op
    have epi : pi = pi' := by injection ei
    have epw : pw = pw' := by injection ew
    subst epi epw
    obtain ⟨b1, o1, rfl, hR1, hcc1⟩ := hri.atI 0 (by rw [insM_len]; omega)
    obtain ⟨b2, o2, rfl, hR2, hcc2⟩ := hrw.atB 0 (by rw [valsM_len]; omega)
    have HC1' := hid hcc1; have HC2' := hid hcc2
    clear ei ew hri hrw hcc1 hcc2
    have i1 : (V : Int) + 1 ≤ 2 * ((V : Int) + 1) := by omega
    have i2 : (0 : Int) ≤ (V : Int) + 1 := by omega
    go_wp2_with fail
    refine (wpIn_wide (n := 9)).1 ?_
    refine wpIn_onlyN ?_
    have hS : (fun W' : World => W'.cell? ⟨w.heap.size + 1, 0, none⟩ = some (.pointer (some ⟨bb, 0, none⟩)) ∧ W'.cell? ⟨w.heap.size + 1, 1, none⟩ = some (.slice (some ⟨b1, o1, none⟩) (2 * (V + 1)) ci) ∧ W'.cell? ⟨w.heap.size + 1, 2, none⟩ = some (.slice (some ⟨b2, o2, none⟩) (2 * (V + 1)) cw)) w4.drew := ⟨a0, a1, a2⟩
    refine wpIn_region_HJ (fun W' : World => W'.cell? ⟨w.heap.size + 1, 0, none⟩ = some (.pointer (some ⟨bb, 0, none⟩)) ∧ W'.cell? ⟨w.heap.size + 1, 1, none⟩ = some (.slice (some ⟨b1, o1, none⟩) (2 * (V + 1)) ci) ∧ W'.cell? ⟨w.heap.size + 1, 2, none⟩ = some (.slice (some ⟨b2, o2, none⟩) (2 * (V + 1)) cw)) 13 (by kernel_rfl) ?_
    simp only [List.size_toArray, List.length_cons, List.length_nil, Nat.reduceAdd]
    have hFa : ∀ f, Fence.wide.fn f := fun _ => trivial
    refine wpHJ_take (v := ?v0) 0 hFa rfl (by kernel_rfl) (fun _ _ _ h => h.elim) (Or.inl ⟨by rfl, ?y0⟩) hS ?r0
    case y0 => (intro w' hS'; obtain ⟨s1, s2, s3⟩ := hS'; go_simp; try rfl)
    simp only [Act.put, List.getElem_toArray, List.getElem_cons_succ, List.getElem_cons_zero, List.setIfInBounds_toArray, List.set_cons_zero, List.set_cons_succ]
    refine wpHJ_pure (v := ?v1) 1 hFa rfl (by kernel_rfl) (fun _ _ _ h => h.elim) (Or.inl ⟨by rfl, ?y1⟩) (.inr hS) ?r1
    case y1 => (intro w' _; go_simp; try rfl)
    simp only [Act.put, List.getElem_toArray, List.getElem_cons_succ, List.getElem_cons_zero, List.setIfInBounds_toArray, List.set_cons_zero, List.set_cons_succ]
    refine wpHJ_pure (v := ?v2) 2 hFa rfl (by kernel_rfl) (fun _ _ _ h => h.elim) (Or.inl ⟨by rfl, ?y2⟩) (.inr hS) ?r2
    case y2 => (intro w' _; go_simp; try rfl)
    simp only [Act.put, List.getElem_toArray, List.getElem_cons_succ, List.getElem_cons_zero, List.setIfInBounds_toArray, List.set_cons_zero, List.set_cons_succ]
    refine wpHJ_take (v := ?v3) 3 hFa rfl (by kernel_rfl) (fun _ _ _ h => h.elim) (Or.inl ⟨by rfl, ?y3⟩) hS ?r3
    case y3 => (intro w' hS'; obtain ⟨s1, s2, s3⟩ := hS'; go_simp; try rfl)
    simp only [Act.put, List.getElem_toArray, List.getElem_cons_succ, List.getElem_cons_zero, List.setIfInBounds_toArray, List.set_cons_zero, List.set_cons_succ]
    refine wpHJ_pure (v := ?v4) 4 hFa rfl (by kernel_rfl) (fun _ _ _ h => h.elim) (Or.inl ⟨by rfl, ?y4⟩) (.inr hS) ?r4
    case y4 => (intro w' _; go_simp; try rfl)
    simp only [Act.put, List.getElem_toArray, List.getElem_cons_succ, List.getElem_cons_zero, List.setIfInBounds_toArray, List.set_cons_zero, List.set_cons_succ]
    refine wpHJ_pure (v := .slice (some ⟨b1, o1 + (V + 1), none⟩) (2 * (V + 1) - (V + 1)) (ci - (V + 1))) 5 hFa rfl (by kernel_rfl) (fun _ _ _ h => h.elim) (Or.inl ⟨by rfl, ?y5⟩) (.inr hS) ?r5
    case y5 => (intro w' _; go_simp; omega)
    simp only [Act.put, List.getElem_toArray, List.getElem_cons_succ, List.getElem_cons_zero, List.setIfInBounds_toArray, List.set_cons_zero, List.set_cons_succ]
    refine wpHJ_pure (v := ?v7) 7 hFa rfl (by kernel_rfl) (fun _ _ _ h => h.elim) (Or.inl ⟨by rfl, ?y7⟩) (.inr hS) ?r7
    case y7 => (intro w' _; go_simp; try rfl)
    simp only [Act.put, List.getElem_toArray, List.getElem_cons_succ, List.getElem_cons_zero, List.setIfInBounds_toArray, List.set_cons_zero, List.set_cons_succ]
    refine wpHJ_pure (v := ?v8) 8 hFa rfl (by kernel_rfl) (fun _ _ _ h => h.elim) (Or.inl ⟨by rfl, ?y8⟩) (.inr hS) ?r8
    case y8 => (intro w' _; go_simp; try rfl)
    simp only [Act.put, List.getElem_toArray, List.getElem_cons_succ, List.getElem_cons_zero, List.setIfInBounds_toArray, List.set_cons_zero, List.set_cons_succ]
    refine wpHJ_take (v := ?v9) 9 hFa rfl (by kernel_rfl) (fun _ _ _ h => h.elim) (Or.inl ⟨by rfl, ?y9⟩) hS ?r9
    case y9 => (intro w' hS'; obtain ⟨s1, s2, s3⟩ := hS'; go_simp; try rfl)
    simp only [Act.put, List.getElem_toArray, List.getElem_cons_succ, List.getElem_cons_zero, List.setIfInBounds_toArray, List.set_cons_zero, List.set_cons_succ]
    refine wpHJ_pure (v := ?v10) 10 hFa rfl (by kernel_rfl) (fun _ _ _ h => h.elim) (Or.inl ⟨by rfl, ?y10⟩) (.inr hS) ?r10
    case y10 => (intro w' _; go_simp; try rfl)
    simp only [Act.put, List.getElem_toArray, List.getElem_cons_succ, List.getElem_cons_zero, List.setIfInBounds_toArray, List.set_cons_zero, List.set_cons_succ]
    refine wpHJ_pure (v := .slice (some ⟨b2, o2 + (V + 1), none⟩) (2 * (V + 1) - (V + 1)) (cw - (V + 1))) 11 hFa rfl (by kernel_rfl) (fun _ _ _ h => h.elim) (Or.inl ⟨by rfl, ?y11⟩) (.inr hS) ?r11
    case y11 => (intro w' _; go_simp; omega)
    simp only [Act.put, List.getElem_toArray, List.getElem_cons_succ, List.getElem_cons_zero, List.setIfInBounds_toArray, List.set_cons_zero, List.set_cons_succ]
    have hr1 : RowR (fun _ => True) w4.drew (some ⟨b1, o1 + (V + 1), none⟩) (((insM (2 * (V + 1))).drop (V + 1)).map (Value.int .i64)) := .inr ⟨b1, _, rfl, trivial, fun j hj => by
      have hj2 : j < V + 1 := by simp [insM] at hj; omega
      have := HC1'.out (V + 1 + j) (by rw [insM_len]; omega)
      rw [show o1 + (V + 1) + j = o1 + (V + 1 + j) by omega]
      refine Eq.trans (show w4.drew.cell? _ = w4.cell? _ from rfl) (this.trans ?_)
      simp⟩
    have hl1' : ((insM (2 * (V + 1))).drop (V + 1)).length = V + 1 := by rw [List.length_drop, insM_len]; omega
    have hl2' : ((valsM (2 * (V + 1)) (sigB vals)).drop (V + 1)).length = V + 1 := by rw [List.length_drop, valsM_len]; omega
    refine wpHJ_only 6 (by kernel_rfl) rfl ?_
    intro K hK
    rw [if_pos (by simp [Region.wanted])]
    refine wpIn_app hFa (.const (.slice none 0 0)) (.tmp 54) 23 rfl w4.heap.size 3 (.int .i64 0) 8 Tryd.underlying23 info_int rfl _ 0 [] rfl (World.ownsRow_nil _ _ _ _) (some ⟨b1, o1 + (V + 1), none⟩) (2 * (V + 1) - (V + 1)) (ci - (V + 1)) _ rfl (by rw [List.length_map, hl1']; omega) hr1 (ints_one _) (by omega) (by unfold maxLen; omega) (Nat.le_refl _) ?_
    intro v2 w5 ho5 hg5 _
    simp only [Act.put, List.getElem_toArray, List.getElem_cons_succ, List.getElem_cons_zero, List.setIfInBounds_toArray, List.set_cons_zero, List.set_cons_succ]
    have hnn : ∀ j : Nat, some j ≠ (Value.slice none 0 0).ownBlock := fun j e => by cases e
    have s0 : w5.cell? ⟨w.heap.size + 1, 0, none⟩ = some (.pointer (some ⟨bb, 0, none⟩)) := hg5.cell a0 (hnn _)
    have s1 : w5.cell? ⟨w.heap.size + 1, 1, none⟩ = some (.slice (some ⟨b1, o1, none⟩) (2 * (V + 1)) ci) := hg5.cell a1 (hnn _)
    have s2 : w5.cell? ⟨w.heap.size + 1, 2, none⟩ = some (.slice (some ⟨b2, o2, none⟩) (2 * (V + 1)) cw) := hg5.cell a2 (hnn _)
    refine hK _ _ (.inr (.inr ⟨s0, s1, s2⟩)) ?_
    clear hK K
    have hr2 : RowR (fun _ => True) w5 (some ⟨b2, o2 + (V + 1), none⟩) (((valsM (2 * (V + 1)) (sigB vals)).drop (V + 1)).map Value.bool) := .inr ⟨b2, _, rfl, trivial, fun j hj => by
      have hj2 : j < V + 1 := by simp [valsM] at hj; omega
      have := HC2'.out (V + 1 + j) (by rw [valsM_len]; omega)
      rw [show o2 + (V + 1) + j = o2 + (V + 1 + j) by omega]
      refine Eq.trans (hg5.cell this (hnn _)) ?_
      simp⟩
    refine wpHJ_only 12 (by kernel_rfl) rfl ?_
    intro K hK
    rw [if_pos (by simp [Region.wanted])]
    refine wpIn_app hFa (.const (.slice none 0 0)) (.tmp 60) 22 rfl w4.heap.size 4 (.bool false) 1 Tryd.underlying22 info_bool rfl _ 0 [] rfl (World.ownsRow_nil _ _ _ _) (some ⟨b2, o2 + (V + 1), none⟩) (2 * (V + 1) - (V + 1)) (cw - (V + 1)) _ rfl (by rw [List.length_map, hl2']; omega) hr2 (bools_one _) (by omega) (by unfold maxLen; omega) hg5.size ?_
    intro vb w6 ho6 hg6 _
    simp only [Act.put, List.getElem_toArray, List.getElem_cons_succ, List.getElem_cons_zero, List.setIfInBounds_toArray, List.set_cons_zero, List.set_cons_succ]
    have hb6 : Below w4.heap.size w4 w6 := ⟨hg6.os.trans hg5.os, hg6.tape.trans hg5.tape, hg6.output.trans hg5.output, Nat.le_trans hg5.size hg6.size, fun j hj => (hg6.block j (Nat.lt_of_lt_of_le hj hg5.size) (hnn _)).trans (hg5.block j hj (hnn _))⟩
    have hS6 := HS4.out.below hb6
    have d0 : w6.cell? ⟨w.heap.size + 1, 0, none⟩ = some (.pointer (some ⟨bb, 0, none⟩)) := by rw [cell_of_cells hS6.cA]; rfl
    have d1 : w6.cell? ⟨w.heap.size + 1, 1, none⟩ = some (.slice (some ⟨b1, o1, none⟩) (2 * (V + 1)) ci) := by rw [cell_of_cells hS6.cA]; rfl
    have d2 : w6.cell? ⟨w.heap.size + 1, 2, none⟩ = some (.slice (some ⟨b2, o2, none⟩) (2 * (V + 1)) cw) := by rw [cell_of_cells hS6.cA]; rfl
    have e0 : w6.frozen? ⟨w.heap.size + 1, 0, none⟩ = false := frozen_of_cells hS6.cA
    have e1 : w6.frozen? ⟨w.heap.size + 1, 1, none⟩ = false := frozen_of_cells hS6.cA
    have e2 : w6.frozen? ⟨w.heap.size + 1, 2, none⟩ = false := frozen_of_cells hS6.cA
    rw [Nat.zero_add, List.nil_append] at ho5 ho6
    have hm1 : 2 * (V + 1) - (V + 1) = V + 1 := by omega
    rw [hm1] at ho5 ho6
    have hv2 : Ints (New w4 w6) w6 v2 ((insM (2 * (V + 1))).drop (V + 1)) := Sl.of_owns (owns_keep ho5 fun j hj => hg6.block j (ho5.lt j hj).2 (hnn _)) (by omega) (fun j hj => ⟨(ho5.lt j hj).1, Nat.lt_of_lt_of_le (ho5.lt j hj).2 hg6.size⟩)
    have hvb : Bools (New w4 w6) w6 vb (((insM (2 * (V + 1))).drop (V + 1)).map (litT (sigB vals))) := by
      have e : ((insM (2 * (V + 1))).drop (V + 1)).map (litT (sigB vals)) = (valsM (2 * (V + 1)) (sigB vals)).drop (V + 1) := by
        rw [insM_drop, valsM_drop, List.map_map]
        refine List.map_congr_left fun i hi => ?_
        have := (HS4.out.good.in_ok (i := i + (V + 1)) (by simp at hi; omega)).2
        exact this
      rw [e]
      exact Sl.of_owns ho6 (by omega) (fun j hj => ho6.lt j hj)
    have hok : ∀ x ∈ (insM (2 * (V + 1))).drop (V + 1), okLit (2 * (V + 1) + 1 : Nat) x = true := fun x hx => by
      have hx2 := List.mem_of_mem_drop hx
      unfold insM at hx2
      obtain ⟨i, hi, rfl⟩ := List.mem_map.1 hx2
      exact (HS4.out.good.in_ok (i := i) (by simpa using hi)).1
    obtain ⟨p3, c3, rfl⟩ := own_slice ho5
    obtain ⟨p4, c4, rfl⟩ := own_slice ho6
    have HF := hid (fun wf g h => HFIN.out w6 _ _ _ wf hb6 hl1' hok hv2 hvb g h)
    have HS6 := hid hS6
    refine hK _ _ (.inr (.inr ⟨d0, d1, d2⟩)) ?_
    clear hK K hS6 ho5 ho6 hg5 hg6 hb6 hv2 hvb hok hr1 hr2 hl1' hl2' hm1 s0 s1 s2
    refine wpHJ_only 13 (by kernel_rfl) rfl ?_
    intro K hK
    go_simp
    refine hK _ _ (.inl rfl) ?_
    clear hK K
    refine wpHJ_only 14 (by kernel_rfl) rfl ?_
    intro K hK
    go_simp
    refine hK _ _ (.inr (.inl (by kernel_rfl))) ?_
    clear hK K
    refine wpHJ_only 15 (by kernel_rfl) rfl ?_
    intro K hK
    go_simp
    refine hK _ _ (.inr (.inl (by kernel_rfl))) ?_
    clear hK K
    refine wpHJ_only 16 (by kernel_rfl) rfl ?_
    intro K hK
    go_simp
    refine hK _ _ (.inr (.inl (by kernel_rfl))) ?_
    clear hK K
    refine wpHJ_only 17 (by kernel_rfl) rfl ?_
    intro K hK
    go_simp
    refine hK _ _ (.inr (.inl (by kernel_rfl))) ?_
    clear hK K
    refine wpHJ_only 18 (by kernel_rfl) rfl ?_
    intro K hK
    go_simp
    refine hK _ _ (.inr (.inl (by kernel_rfl))) ?_
    clear hK K
    refine wpHJ_done (by kernel_rfl) ?_ _
    simp only [onlyN, Exit.then]
    go_wp2
    obtain ⟨g1, g2⟩ := setThree (a := .pointer (some ⟨bb, 0, none⟩)) (b := .slice (some ⟨b1, o1, none⟩) (2 * (V + 1)) ci) (c := .slice (some ⟨b2, o2, none⟩) (2 * (V + 1)) cw) HS6.out.cA
    have hF := HF.out _ g2 g1
    generalize hwf : World.setCell (World.setCell (World.setCell w6 _ _) _ _) _ _ = wf at *
    have cf0 : wf.cell? ⟨w.heap.size + 1, 0, none⟩ = some (.pointer (some ⟨bb, 0, none⟩)) := by rw [cell_of_cells g1]; rfl
    have cf1 : wf.cell? ⟨w.heap.size + 1, 1, none⟩ = some (.slice (some ⟨b1, o1, none⟩) (2 * (V + 1)) ci) := by rw [cell_of_cells g1]; rfl
    have cf2 : wf.cell? ⟨w.heap.size + 1, 2, none⟩ = some (.slice (some ⟨b2, o2, none⟩) (2 * (V + 1)) cw) := by rw [cell_of_cells g1]; rfl
    exact bodyPost_ret (v := .tuple #[.agg #[.pointer (some ⟨bb, 0, none⟩), .slice (some ⟨b1, o1, none⟩) (2 * (V + 1)) ci, .slice (some ⟨b2, o2, none⟩) (2 * (V + 1)) cw], .slice p1 (V + 1) c1, .slice p3 (V + 1) c3, .slice p2 (V + 1) c2, .slice p4 (V + 1) c4, .bool true]) (by simp [results, Tryd.results15, go_sem, cf0, cf1, cf2]) rfl hF

end Go.Proofs.YtjcnhnifageikaaDoor
