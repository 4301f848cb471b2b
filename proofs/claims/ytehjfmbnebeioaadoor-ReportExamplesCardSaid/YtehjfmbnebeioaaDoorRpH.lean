/-
  The walk of law 39's made.
-/
import Derived.Test.YtehjfmbnebeioaaDoorRpG
import Derived.Test.YtehjfmbnebeioaaDoorKMod
import Derived.IntWalk
namespace Go.Proofs.YtehjfmbnebeioaaDoor
set_option linter.unusedSimpArgs false
set_option linter.unusedVariables false
open Go.RowKit Go.Shelf
attribute [local go_sem] Oper.semAt_some

/-- What made makes of a verdict. -/
def madeV (v : Vd) (m c : Nat) : Vd :=
  if v.kind % 4 = 2 then ⟨2, 1 + v.reason % 4, 0, [], [], false, false, 0, 0, 0⟩
  else if v.kind % 4 = 3 then ⟨3, 0, 0, [], [], false, v.pol, v.line, v.col, 1 + v.err % 10⟩
  else if v.kind % 4 = 1 then ⟨1, 0, v.level % (m : Int), (List.range c).map (atL (cutL v.A)), (List.range c).map (atL (cutL v.B)), v.imp, false, 0, 0, 0⟩
  else ⟨0, 0, 0, [], [], false, false, 0, 0, 0⟩
def MadePost (v : Vd) (m c : Nat) (w : World) (e : Ending) (w' : World) : Prop :=
  Below w.heap.size w w' ∧ ∃ p1 c1 p2 c2, e = .returned (vdV (madeV v m c) (.slice p1 (madeV v m c).A.length c1) (.slice p2 (madeV v m c).B.length c2)) ∧ NLL (fun i => w.heap.size ≤ i ∧ i < w'.heap.size) w' (.slice p1 (madeV v m c).A.length c1) (madeV v m c).A ∧ NLL (fun i => w.heap.size ≤ i ∧ i < w'.heap.size) w' (.slice p2 (madeV v m c).B.length c2) (madeV v m c).B

/-- A struct's block, and two rows of the call's own behind it. -/
structure MS (G : Nat) (w7 W : World) (cs : Array Value) (a b : Value) (na nb : Nat) (ra rb : List Value) : Prop where
  g : W.heap[G]? = some (.cells cs 35 (0, 0))
  oa : W.ownsRow (G + 1) 36 1 a na ra
  ob : W.ownsRow (G + 1) 36 1 b nb rb
  ne : ∀ i, a.ownBlock = some i → b.ownBlock ≠ some i
  be : Below G w7 W
  sz : G + 1 ≤ W.heap.size
theorem MS.drew {G : Nat} {w7 W : World} {cs : Array Value} {a b : Value} {na nb : Nat} {ra rb : List Value} (h : MS G w7 W cs a b na nb ra rb) : MS G w7 W.drew cs a b na nb ra rb := ⟨h.g, h.oa.drew, h.ob.drew, h.ne, h.be.drew, h.sz⟩
theorem MS.alloc {G : Nat} {w7 W : World} {cs : Array Value} {a b : Value} {na nb : Nat} {ra rb : List Value} (h : MS G w7 W cs a b na nb ra rb) (o : Obj) : MS G w7 (W.alloc o) cs a b na nb ra rb :=
  ⟨by have := h.sz; rw [heap_al, if_neg (by omega)]; exact h.g, h.oa.alloc o, h.ob.alloc o, h.ne, h.be.alloc (by have := h.sz; omega) o, by have := h.sz; rw [World.size_alloc]; omega⟩
theorem MS.appA {G : Nat} {w7 W w5 : World} {cs : Array Value} {a b v5 : Value} {na nb na' : Nat} {ra rb ra' : List Value} (h : MS G w7 W cs a b na nb ra rb) (ho : w5.ownsRow (G + 1) 36 1 v5 na' ra') (hg : W.grownBy w5 a.ownBlock) (hv : v5.ownBlock = a.ownBlock ∨ v5.ownBlock = some W.heap.size) : MS G w7 w5 cs v5 b na' nb ra' rb := by
  have hsz := h.sz
  have hA : ∀ i, a.ownBlock = some i → G + 1 ≤ i := fun i hi => (h.oa.lt i hi).1
  refine ⟨(hg.block G (by omega) (fun e => by have := hA G e.symm; omega)).trans h.g, ho, owns_keepL h.ob fun i hi => hg.block i (h.ob.lt i hi).2 (fun e => h.ne i e.symm hi), fun i hi e => ?_, h.be.grown hg (by omega) (fun i hi => by have := hA i hi; omega), by have := hg.size; omega⟩
  rcases hv with hv | hv
  · exact h.ne i (by rw [← hv]; exact hi) e
  · rw [hv] at hi; injection hi with hi; have := (h.ob.lt i e).2; omega
theorem MS.appB {G : Nat} {w7 W w5 : World} {cs : Array Value} {a b v5 : Value} {na nb nb' : Nat} {ra rb rb' : List Value} (h : MS G w7 W cs a b na nb ra rb) (ho : w5.ownsRow (G + 1) 36 1 v5 nb' rb') (hg : W.grownBy w5 b.ownBlock) (hv : v5.ownBlock = b.ownBlock ∨ v5.ownBlock = some W.heap.size) : MS G w7 w5 cs a v5 na nb' ra rb' := by
  have hsz := h.sz
  have hB : ∀ i, b.ownBlock = some i → G + 1 ≤ i := fun i hi => (h.ob.lt i hi).1
  refine ⟨(hg.block G (by omega) (fun e => by have := hB G e.symm; omega)).trans h.g, owns_keepL h.oa fun i hi => hg.block i (h.oa.lt i hi).2 (fun e => h.ne i hi e.symm), ho, fun i hi e => ?_, h.be.grown hg (by omega) (fun i hi => by have := hB i hi; omega), by have := hg.size; omega⟩
  rcases hv with hv | hv
  · exact h.ne i hi (by rw [← hv]; exact e)
  · rw [hv] at e; injection e with e; have := (h.oa.lt i hi).2; omega
theorem MS.set {G : Nat} {w7 W : World} {cs : Array Value} {a b : Value} {na nb : Nat} {ra rb : List Value} (h : MS G w7 W cs a b na nb ra rb) (i : Nat) (u : Value) : MS G w7 (W.setCell ⟨G, i, none⟩ u) (cs.setIfInBounds i u) a b na nb ra rb :=
  ⟨heap_set_cell h.g u, ownsRow_setCell_below h.oa (by show G < G + 1; omega) u, ownsRow_setCell_below h.ob (by show G < G + 1; omega) u, h.ne, h.be.setCell (Nat.le_refl _) u, by rw [World.size_setCell]; exact h.sz⟩
/-- A row of one cell that was laid somewhere, in a later world. -/
theorem row_kept {W W' : World} {n : Nat} {x : Value} (h : RowR (fun i => i = n) W (some ⟨n, 0, none⟩) [x]) (hk : W'.heap[n]? = W.heap[n]?) : RowR (fun i => i = n) W' (some ⟨n, 0, none⟩) [x] := h.keep fun i hi => ⟨hi, by have : i = n := hi; subst this; exact hk⟩
theorem row_lit1 (W : World) (x : Value) : RowR (fun i => i = W.heap.size) (W.alloc (.cells #[x] 36)) (some ⟨W.heap.size, 0, none⟩) [x] := RowR.lit (R := fun i => i = W.heap.size) W [x] 36 rfl
def rowsU (us : List Value) (j : Nat) : List Value := (List.range j).map fun i => us.getD i (.slice none 0 0)
theorem rowsU_succ (us : List Value) (j : Nat) : rowsU us (j + 1) = rowsU us j ++ [us.getD j (.slice none 0 0)] := by unfold rowsU; rw [List.range_succ, List.map_append]; rfl
theorem rowsU_in {us : List Value} {j : Nat} (h : j < us.length) : us.getD j (.slice none 0 0) = us[j] := by unfold List.getD; rw [List.getElem?_eq_getElem h]; rfl
theorem rowsU_out {us : List Value} {j : Nat} (h : us.length ≤ j) : us.getD j (.slice none 0 0) = .slice none 0 0 := by unfold List.getD; rw [List.getElem?_eq_none h]; rfl

theorem made_nll {us : List Value} {L : List (List Nat)} {R : Nat → Prop} {w2 W : World} {G j B : Nat} {v : Value} (hul : us.length = L.length) (hx : ∀ i (h : i < L.length) (h' : i < us.length), Nums R w2 us[i] L[i]) (hRG : ∀ i, R i → i < G) (hRB : ∀ i, R i → B ≤ i)
    (ho : W.ownsRow (G + 1) 36 1 v j (rowsU us j)) (hk : ∀ i, R i → W.heap[i]? = w2.heap[i]?) (hsz : G + 1 ≤ W.heap.size) (hBG : B ≤ G) (hj : j ≤ 1000) : NLL (fun i => B ≤ i ∧ i < W.heap.size) W v ((List.range j).map (atL L)) := by
  refine ⟨rowsU us j, Sl.of_owns ho (by omega) fun i hi => ⟨by have := (ho.lt i hi).1; omega, (ho.lt i hi).2⟩, by simp [rowsU], fun i hi hi' => ?_⟩
  have hij : i < j := by simpa using hi
  have e1 : (rowsU us j)[i] = us.getD i (.slice none 0 0) := by simp [rowsU]
  have e2 : ((List.range j).map (atL L))[i] = atL L i := by simp
  rw [e1, e2]
  by_cases h : i < L.length
  · rw [rowsU_in (by omega)]
    have e3 : atL L i = L[i] := by unfold atL List.getD; rw [List.getElem?_eq_getElem h]; rfl
    rw [e3]
    exact (hx i h (by omega)).keep fun k hk' => ⟨⟨hRB k hk', by have := hRG k hk'; omega⟩, hk k hk'⟩
  · rw [rowsU_out (by omega)]
    have e3 : atL L i = [] := by unfold atL List.getD; rw [List.getElem?_eq_none (by omega)]; rfl
    rw [e3]
    exact Nums.nil

set_option maxRecDepth 100000 in
set_option maxHeartbeats 4000000 in
theorem made_k0 (k r : Nat) (lv : Int) (A B : List (List Nat)) (imp pol : Bool) (ln co er : Int) (pA pB : Option Addr) (cA cB : Nat) (m c : Nat) (R : Nat → Prop) (w : World) (hk : k % 4 = 0) (hk255 : k ≤ 255) (hr255 : r ≤ 255) (hm : 1 ≤ m ∧ m ≤ 1000) (hc : c ≤ 1000) (hlv : -9223372036854775808 ≤ lv ∧ lv ≤ 9223372036854775807) (her : -9223372036854775808 ≤ er ∧ er ≤ 9223372036854775807) (hA : NLL R w (.slice pA A.length cA) A) (hB : NLL R w (.slice pB B.length cB) B) (hR : ∀ i, R i → i < w.heap.size) (hlA : ∀ x ∈ A, x.length ≤ 17592186044415) (hlB : ∀ x ∈ B, x.length ≤ 17592186044415) :
    Calls Tryd.prog 14 #[.agg #[.int .u8 (k : Int), .int .u8 (r : Int), .int .i64 lv, .slice pA A.length cA, .slice pB B.length cB, .bool imp, .bool pol, .int .i64 ln, .int .i64 co, .int .i64 er], .int .i64 (m : Int), .int .i64 (c : Int)] w (MadePost ⟨k, r, lv, A, B, imp, pol, ln, co, er⟩ m c w) := by
  obtain ⟨W0, hW0⟩ : ∃ W, (w.alloc (.cells #[.int .u8 (k : Int), .int .u8 (r : Int), .int .i64 lv, .slice pA A.length cA, .slice pB B.length cB, .bool imp, .bool pol, .int .i64 ln, .int .i64 co, .int .i64 er] 35)).alloc (.cells #[.int .u8 0, .int .u8 0, .int .i64 0, .slice none 0 0, .slice none 0 0, .bool false, .bool false, .int .i64 0, .int .i64 0, .int .i64 0] 35) = W := ⟨_, rfl⟩
  have hb0 : Below w.heap.size w W0 := by rw [← hW0]; exact ((Below.refl _ _).alloc (Nat.le_refl _) _).alloc (by rw [World.size_alloc]; omega) _
  have hz0 : W0.heap.size = w.heap.size + 2 := by rw [← hW0, World.size_alloc, World.size_alloc]
  have hc0 : W0.heap[w.heap.size]? = some (.cells #[.int .u8 (k : Int), .int .u8 (r : Int), .int .i64 lv, .slice pA A.length cA, .slice pB B.length cB, .bool imp, .bool pol, .int .i64 ln, .int .i64 co, .int .i64 er] 35 (0, 0)) := by rw [← hW0, heap_al, if_neg (by rw [World.size_alloc]; omega), heap_al, if_pos rfl]
  have hc1 : W0.heap[w.heap.size + 1]? = some (.cells #[.int .u8 0, .int .u8 0, .int .i64 0, .slice none 0 0, .slice none 0 0, .bool false, .bool false, .int .i64 0, .int .i64 0, .int .i64 0] 35 (0, 0)) := by rw [← hW0, heap_al, if_pos (by rw [World.size_alloc])]
  have HFEW := hid (few_any k r lv A B imp pol ln co er pA pB cA cB R W0 (hA.keep fun i hi => ⟨hi, hb0.block i (hR i hi)⟩) (hB.keep fun i hi => ⟨hi, hb0.block i (hR i hi)⟩) (fun i hi => by have := hR i hi; omega) hlA hlB)
  have HB0 := hid hb0; have HZ := hid hz0; have HC0 := hid hc0; have HZ0 := hid hc1; have HWW := hid hW0
  obtain ⟨z, hkq, hz⟩ : ∃ z : Int, (k : Int) % 4 = z ∧ z = 0 := ⟨0, by omega, rfl⟩
  have HMV := hid (show madeV ⟨k, r, lv, A, B, imp, pol, ln, co, er⟩ m c = ⟨0, 0, 0, [], [], false, false, 0, 0, 0⟩ from by unfold madeV; rw [if_neg (by dsimp only; omega), if_neg (by dsimp only; omega), if_neg (by dsimp only; omega)])
  have n2 : (z == 2) = false := by rw [hz]; rfl
  have n3 : (z == 3) = false := by rw [hz]; rfl
  have n1 : (z == 1) = false := by rw [hz]; rfl
  have HZZ := hid hz
  clear hk hz
  clear hA hB hR hlA hlB hb0 hz0 hc0 hc1 hW0
  unfold FewPost at HFEW
  unfold MadePost
  rw [HMV.out]
  generalize cutL A = LA at *
  generalize cutL B = LB at *
  go_enter Tryd.func14, Tryd.ntmps14
  go_wp2_with fail
  rw [HWW.out]
  refine HFEW.out.mono ?_
  rintro e w2 ⟨hb2, p1, c1, p2, c2, rfl, hn1, hn2⟩
  have hC2 := (hb2.block w.heap.size (by rw [HZ.out]; omega)).trans HC0.out
  have hZ2 := (hb2.block (w.heap.size + 1) (by rw [HZ.out]; omega)).trans HZ0.out
  have x0 : w2.cell? ⟨w.heap.size, 0, none⟩ = some (.int .u8 (k : Int)) := (by rw [cell_of_row w2 _ 0 _ _ _ hC2]; rfl)
  have f0 : w2.frozen? ⟨w.heap.size, 0, none⟩ = false := frozen_of_row w2 _ 0 _ _ hC2
  have x1 : w2.cell? ⟨w.heap.size, 1, none⟩ = some (.int .u8 (r : Int)) := (by rw [cell_of_row w2 _ 1 _ _ _ hC2]; rfl)
  have f1 : w2.frozen? ⟨w.heap.size, 1, none⟩ = false := frozen_of_row w2 _ 1 _ _ hC2
  have x2 : w2.cell? ⟨w.heap.size, 2, none⟩ = some (.int .i64 lv) := (by rw [cell_of_row w2 _ 2 _ _ _ hC2]; rfl)
  have f2 : w2.frozen? ⟨w.heap.size, 2, none⟩ = false := frozen_of_row w2 _ 2 _ _ hC2
  have x3 : w2.cell? ⟨w.heap.size, 3, none⟩ = some (.slice pA A.length cA) := (by rw [cell_of_row w2 _ 3 _ _ _ hC2]; rfl)
  have f3 : w2.frozen? ⟨w.heap.size, 3, none⟩ = false := frozen_of_row w2 _ 3 _ _ hC2
  have x4 : w2.cell? ⟨w.heap.size, 4, none⟩ = some (.slice pB B.length cB) := (by rw [cell_of_row w2 _ 4 _ _ _ hC2]; rfl)
  have f4 : w2.frozen? ⟨w.heap.size, 4, none⟩ = false := frozen_of_row w2 _ 4 _ _ hC2
  have x5 : w2.cell? ⟨w.heap.size, 5, none⟩ = some (.bool imp) := (by rw [cell_of_row w2 _ 5 _ _ _ hC2]; rfl)
  have f5 : w2.frozen? ⟨w.heap.size, 5, none⟩ = false := frozen_of_row w2 _ 5 _ _ hC2
  have x6 : w2.cell? ⟨w.heap.size, 6, none⟩ = some (.bool pol) := (by rw [cell_of_row w2 _ 6 _ _ _ hC2]; rfl)
  have f6 : w2.frozen? ⟨w.heap.size, 6, none⟩ = false := frozen_of_row w2 _ 6 _ _ hC2
  have x7 : w2.cell? ⟨w.heap.size, 7, none⟩ = some (.int .i64 ln) := (by rw [cell_of_row w2 _ 7 _ _ _ hC2]; rfl)
  have f7 : w2.frozen? ⟨w.heap.size, 7, none⟩ = false := frozen_of_row w2 _ 7 _ _ hC2
  have x8 : w2.cell? ⟨w.heap.size, 8, none⟩ = some (.int .i64 co) := (by rw [cell_of_row w2 _ 8 _ _ _ hC2]; rfl)
  have f8 : w2.frozen? ⟨w.heap.size, 8, none⟩ = false := frozen_of_row w2 _ 8 _ _ hC2
  have x9 : w2.cell? ⟨w.heap.size, 9, none⟩ = some (.int .i64 er) := (by rw [cell_of_row w2 _ 9 _ _ _ hC2]; rfl)
  have f9 : w2.frozen? ⟨w.heap.size, 9, none⟩ = false := frozen_of_row w2 _ 9 _ _ hC2
  have HC2 := hid hC2; have HZ2 := hid hZ2
  have HB2 := hid (HB0.out.trans (hb2.mono HB0.out.size)); have HN1 := hid hn1; have HN2 := hid hn2; have HBF := hid hb2
  clear hC2 hZ2 hb2 hn1 hn2
  go_wp2_with (first | (obtain ⟨w5, hw5⟩ : ∃ W, ((((((((((w2).setCell ⟨w.heap.size, 0, none⟩ (.int .u8 (k : Int))).setCell ⟨w.heap.size, 1, none⟩ (.int .u8 (r : Int))).setCell ⟨w.heap.size, 2, none⟩ (.int .i64 lv)).setCell ⟨w.heap.size, 3, none⟩ (.slice p1 LA.length c1)).setCell ⟨w.heap.size, 4, none⟩ (.slice p2 LB.length c2)).setCell ⟨w.heap.size, 5, none⟩ (.bool imp)).setCell ⟨w.heap.size, 6, none⟩ (.bool pol)).setCell ⟨w.heap.size, 7, none⟩ (.int .i64 ln)).setCell ⟨w.heap.size, 8, none⟩ (.int .i64 co)).setCell ⟨w.heap.size, 9, none⟩ (.int .i64 er) = W := ⟨_, rfl⟩; rw [hw5]; obtain ⟨hg5, hk5, hs5, hb5⟩ := set10 HC2.out (.int .u8 (k : Int)) (.int .u8 (r : Int)) (.int .i64 lv) (.slice p1 LA.length c1) (.slice p2 LB.length c2) (.bool imp) (.bool pol) (.int .i64 ln) (.int .i64 co) (.int .i64 er); have hb5 := hb5 HB2.out (Nat.le_refl _); rw [hw5] at hg5 hk5 hs5 hb5; clear x0 f0 x1 f1 x2 f2 x3 f3 x4 f4 x5 f5 x6 f6 x7 f7 x8 f8 x9 f9 hw5; have x0 : w5.cell? ⟨w.heap.size, 0, none⟩ = some (.int .u8 (k : Int)) := (by rw [cell_of_row w5 _ 0 _ _ _ hg5]; rfl); have x1 : w5.cell? ⟨w.heap.size, 1, none⟩ = some (.int .u8 (r : Int)) := (by rw [cell_of_row w5 _ 1 _ _ _ hg5]; rfl); have x2 : w5.cell? ⟨w.heap.size, 2, none⟩ = some (.int .i64 lv) := (by rw [cell_of_row w5 _ 2 _ _ _ hg5]; rfl); have x3 : w5.cell? ⟨w.heap.size, 3, none⟩ = some (.slice p1 LA.length c1) := (by rw [cell_of_row w5 _ 3 _ _ _ hg5]; rfl); have x4 : w5.cell? ⟨w.heap.size, 4, none⟩ = some (.slice p2 LB.length c2) := (by rw [cell_of_row w5 _ 4 _ _ _ hg5]; rfl); have x5 : w5.cell? ⟨w.heap.size, 5, none⟩ = some (.bool imp) := (by rw [cell_of_row w5 _ 5 _ _ _ hg5]; rfl); have x6 : w5.cell? ⟨w.heap.size, 6, none⟩ = some (.bool pol) := (by rw [cell_of_row w5 _ 6 _ _ _ hg5]; rfl); have x7 : w5.cell? ⟨w.heap.size, 7, none⟩ = some (.int .i64 ln) := (by rw [cell_of_row w5 _ 7 _ _ _ hg5]; rfl); have x8 : w5.cell? ⟨w.heap.size, 8, none⟩ = some (.int .i64 co) := (by rw [cell_of_row w5 _ 8 _ _ _ hg5]; rfl); have x9 : w5.cell? ⟨w.heap.size, 9, none⟩ = some (.int .i64 er) := (by rw [cell_of_row w5 _ 9 _ _ _ hg5]; rfl); have hz5 := (hk5 (w.heap.size + 1) (by omega)).trans HZ2.out; have z0 : w5.cell? ⟨w.heap.size + 1, 0, none⟩ = some (.int .u8 0) := (by rw [cell_of_row w5 _ 0 _ _ _ hz5]; rfl); have f0 : w5.frozen? ⟨w.heap.size + 1, 0, none⟩ = false := frozen_of_row w5 _ 0 _ _ hz5; have z1 : w5.cell? ⟨w.heap.size + 1, 1, none⟩ = some (.int .u8 0) := (by rw [cell_of_row w5 _ 1 _ _ _ hz5]; rfl); have f1 : w5.frozen? ⟨w.heap.size + 1, 1, none⟩ = false := frozen_of_row w5 _ 1 _ _ hz5; have z2 : w5.cell? ⟨w.heap.size + 1, 2, none⟩ = some (.int .i64 0) := (by rw [cell_of_row w5 _ 2 _ _ _ hz5]; rfl); have f2 : w5.frozen? ⟨w.heap.size + 1, 2, none⟩ = false := frozen_of_row w5 _ 2 _ _ hz5; have z3 : w5.cell? ⟨w.heap.size + 1, 3, none⟩ = some (.slice none 0 0) := (by rw [cell_of_row w5 _ 3 _ _ _ hz5]; rfl); have f3 : w5.frozen? ⟨w.heap.size + 1, 3, none⟩ = false := frozen_of_row w5 _ 3 _ _ hz5; have z4 : w5.cell? ⟨w.heap.size + 1, 4, none⟩ = some (.slice none 0 0) := (by rw [cell_of_row w5 _ 4 _ _ _ hz5]; rfl); have f4 : w5.frozen? ⟨w.heap.size + 1, 4, none⟩ = false := frozen_of_row w5 _ 4 _ _ hz5; have z5 : w5.cell? ⟨w.heap.size + 1, 5, none⟩ = some (.bool false) := (by rw [cell_of_row w5 _ 5 _ _ _ hz5]; rfl); have f5 : w5.frozen? ⟨w.heap.size + 1, 5, none⟩ = false := frozen_of_row w5 _ 5 _ _ hz5; have z6 : w5.cell? ⟨w.heap.size + 1, 6, none⟩ = some (.bool false) := (by rw [cell_of_row w5 _ 6 _ _ _ hz5]; rfl); have f6 : w5.frozen? ⟨w.heap.size + 1, 6, none⟩ = false := frozen_of_row w5 _ 6 _ _ hz5; have z7 : w5.cell? ⟨w.heap.size + 1, 7, none⟩ = some (.int .i64 0) := (by rw [cell_of_row w5 _ 7 _ _ _ hz5]; rfl); have f7 : w5.frozen? ⟨w.heap.size + 1, 7, none⟩ = false := frozen_of_row w5 _ 7 _ _ hz5; have z8 : w5.cell? ⟨w.heap.size + 1, 8, none⟩ = some (.int .i64 0) := (by rw [cell_of_row w5 _ 8 _ _ _ hz5]; rfl); have f8 : w5.frozen? ⟨w.heap.size + 1, 8, none⟩ = false := frozen_of_row w5 _ 8 _ _ hz5; have z9 : w5.cell? ⟨w.heap.size + 1, 9, none⟩ = some (.int .i64 0) := (by rw [cell_of_row w5 _ 9 _ _ _ hz5]; rfl); have f9 : w5.frozen? ⟨w.heap.size + 1, 9, none⟩ = false := frozen_of_row w5 _ 9 _ _ hz5; have HG5 := hid hg5; have HK5 := hid hk5; have HS5 := hid hs5; have HB5 := hid hb5; have HZ5 := hid hz5; clear hg5 hk5 hs5 hb5 hz5) | (obtain ⟨w6, hw6⟩ : ∃ W, w5.alloc (.cells #[.int .u8 z, .int .u8 0, .int .i64 0, .slice none 0 0, .slice none 0 0, .bool false, .bool false, .int .i64 0, .int .i64 0, .int .i64 0] 35) = W := ⟨_, rfl⟩; rw [hw6]; have hg6 : w6.heap[w5.heap.size]? = some (.cells #[.int .u8 z, .int .u8 0, .int .i64 0, .slice none 0 0, .slice none 0 0, .bool false, .bool false, .int .i64 0, .int .i64 0, .int .i64 0] 35 (0, 0)) := (by rw [← hw6, heap_al, if_pos rfl]); have hb6 : Below w5.heap.size w5 w6 := (by rw [← hw6]; exact (Below.refl _ _).alloc (Nat.le_refl _) _); have hs6 : w6.heap.size = w5.heap.size + 1 := (by rw [← hw6, World.size_alloc]); have h50 : w.heap.size < w5.heap.size := (by have := HBF.out.size; have := HS5.out; have := HZ.out; omega); have h51 : w.heap.size + 1 < w5.heap.size := (by have := HBF.out.size; have := HS5.out; have := HZ.out; omega); have hc6 := (hb6.block w.heap.size h50).trans HG5.out; have hz6 := (hb6.block (w.heap.size + 1) h51).trans HZ5.out; clear x0 z0 f0 x1 z1 f1 x2 z2 f2 x3 z3 f3 x4 z4 f4 x5 z5 f5 x6 z6 f6 x7 z7 f7 x8 z8 f8 x9 z9 f9 hw6; have x0 : w6.cell? ⟨w.heap.size, 0, none⟩ = some (.int .u8 (k : Int)) := (by rw [cell_of_row w6 _ 0 _ _ _ hc6]; rfl); have g0 : w6.frozen? ⟨w.heap.size, 0, none⟩ = false := frozen_of_row w6 _ 0 _ _ hc6; have x1 : w6.cell? ⟨w.heap.size, 1, none⟩ = some (.int .u8 (r : Int)) := (by rw [cell_of_row w6 _ 1 _ _ _ hc6]; rfl); have g1 : w6.frozen? ⟨w.heap.size, 1, none⟩ = false := frozen_of_row w6 _ 1 _ _ hc6; have x2 : w6.cell? ⟨w.heap.size, 2, none⟩ = some (.int .i64 lv) := (by rw [cell_of_row w6 _ 2 _ _ _ hc6]; rfl); have g2 : w6.frozen? ⟨w.heap.size, 2, none⟩ = false := frozen_of_row w6 _ 2 _ _ hc6; have x3 : w6.cell? ⟨w.heap.size, 3, none⟩ = some (.slice p1 LA.length c1) := (by rw [cell_of_row w6 _ 3 _ _ _ hc6]; rfl); have g3 : w6.frozen? ⟨w.heap.size, 3, none⟩ = false := frozen_of_row w6 _ 3 _ _ hc6; have x4 : w6.cell? ⟨w.heap.size, 4, none⟩ = some (.slice p2 LB.length c2) := (by rw [cell_of_row w6 _ 4 _ _ _ hc6]; rfl); have g4 : w6.frozen? ⟨w.heap.size, 4, none⟩ = false := frozen_of_row w6 _ 4 _ _ hc6; have x5 : w6.cell? ⟨w.heap.size, 5, none⟩ = some (.bool imp) := (by rw [cell_of_row w6 _ 5 _ _ _ hc6]; rfl); have g5 : w6.frozen? ⟨w.heap.size, 5, none⟩ = false := frozen_of_row w6 _ 5 _ _ hc6; have x6 : w6.cell? ⟨w.heap.size, 6, none⟩ = some (.bool pol) := (by rw [cell_of_row w6 _ 6 _ _ _ hc6]; rfl); have g6 : w6.frozen? ⟨w.heap.size, 6, none⟩ = false := frozen_of_row w6 _ 6 _ _ hc6; have x7 : w6.cell? ⟨w.heap.size, 7, none⟩ = some (.int .i64 ln) := (by rw [cell_of_row w6 _ 7 _ _ _ hc6]; rfl); have g7 : w6.frozen? ⟨w.heap.size, 7, none⟩ = false := frozen_of_row w6 _ 7 _ _ hc6; have x8 : w6.cell? ⟨w.heap.size, 8, none⟩ = some (.int .i64 co) := (by rw [cell_of_row w6 _ 8 _ _ _ hc6]; rfl); have g8 : w6.frozen? ⟨w.heap.size, 8, none⟩ = false := frozen_of_row w6 _ 8 _ _ hc6; have x9 : w6.cell? ⟨w.heap.size, 9, none⟩ = some (.int .i64 er) := (by rw [cell_of_row w6 _ 9 _ _ _ hc6]; rfl); have g9 : w6.frozen? ⟨w.heap.size, 9, none⟩ = false := frozen_of_row w6 _ 9 _ _ hc6; have z0 : w6.cell? ⟨w.heap.size + 1, 0, none⟩ = some (.int .u8 0) := (by rw [cell_of_row w6 _ 0 _ _ _ hz6]; rfl); have f0 : w6.frozen? ⟨w.heap.size + 1, 0, none⟩ = false := frozen_of_row w6 _ 0 _ _ hz6; have z1 : w6.cell? ⟨w.heap.size + 1, 1, none⟩ = some (.int .u8 0) := (by rw [cell_of_row w6 _ 1 _ _ _ hz6]; rfl); have f1 : w6.frozen? ⟨w.heap.size + 1, 1, none⟩ = false := frozen_of_row w6 _ 1 _ _ hz6; have z2 : w6.cell? ⟨w.heap.size + 1, 2, none⟩ = some (.int .i64 0) := (by rw [cell_of_row w6 _ 2 _ _ _ hz6]; rfl); have f2 : w6.frozen? ⟨w.heap.size + 1, 2, none⟩ = false := frozen_of_row w6 _ 2 _ _ hz6; have z3 : w6.cell? ⟨w.heap.size + 1, 3, none⟩ = some (.slice none 0 0) := (by rw [cell_of_row w6 _ 3 _ _ _ hz6]; rfl); have f3 : w6.frozen? ⟨w.heap.size + 1, 3, none⟩ = false := frozen_of_row w6 _ 3 _ _ hz6; have z4 : w6.cell? ⟨w.heap.size + 1, 4, none⟩ = some (.slice none 0 0) := (by rw [cell_of_row w6 _ 4 _ _ _ hz6]; rfl); have f4 : w6.frozen? ⟨w.heap.size + 1, 4, none⟩ = false := frozen_of_row w6 _ 4 _ _ hz6; have z5 : w6.cell? ⟨w.heap.size + 1, 5, none⟩ = some (.bool false) := (by rw [cell_of_row w6 _ 5 _ _ _ hz6]; rfl); have f5 : w6.frozen? ⟨w.heap.size + 1, 5, none⟩ = false := frozen_of_row w6 _ 5 _ _ hz6; have z6 : w6.cell? ⟨w.heap.size + 1, 6, none⟩ = some (.bool false) := (by rw [cell_of_row w6 _ 6 _ _ _ hz6]; rfl); have f6 : w6.frozen? ⟨w.heap.size + 1, 6, none⟩ = false := frozen_of_row w6 _ 6 _ _ hz6; have z7 : w6.cell? ⟨w.heap.size + 1, 7, none⟩ = some (.int .i64 0) := (by rw [cell_of_row w6 _ 7 _ _ _ hz6]; rfl); have f7 : w6.frozen? ⟨w.heap.size + 1, 7, none⟩ = false := frozen_of_row w6 _ 7 _ _ hz6; have z8 : w6.cell? ⟨w.heap.size + 1, 8, none⟩ = some (.int .i64 0) := (by rw [cell_of_row w6 _ 8 _ _ _ hz6]; rfl); have f8 : w6.frozen? ⟨w.heap.size + 1, 8, none⟩ = false := frozen_of_row w6 _ 8 _ _ hz6; have z9 : w6.cell? ⟨w.heap.size + 1, 9, none⟩ = some (.int .i64 0) := (by rw [cell_of_row w6 _ 9 _ _ _ hz6]; rfl); have f9 : w6.frozen? ⟨w.heap.size + 1, 9, none⟩ = false := frozen_of_row w6 _ 9 _ _ hz6; have y0 : w6.cell? ⟨w5.heap.size, 0, none⟩ = some (.int .u8 z) := (by rw [cell_of_row w6 _ 0 _ _ _ hg6]; rfl); have e0 : w6.frozen? ⟨w5.heap.size, 0, none⟩ = false := frozen_of_row w6 _ 0 _ _ hg6; have y1 : w6.cell? ⟨w5.heap.size, 1, none⟩ = some (.int .u8 0) := (by rw [cell_of_row w6 _ 1 _ _ _ hg6]; rfl); have e1 : w6.frozen? ⟨w5.heap.size, 1, none⟩ = false := frozen_of_row w6 _ 1 _ _ hg6; have y2 : w6.cell? ⟨w5.heap.size, 2, none⟩ = some (.int .i64 0) := (by rw [cell_of_row w6 _ 2 _ _ _ hg6]; rfl); have e2 : w6.frozen? ⟨w5.heap.size, 2, none⟩ = false := frozen_of_row w6 _ 2 _ _ hg6; have y3 : w6.cell? ⟨w5.heap.size, 3, none⟩ = some (.slice none 0 0) := (by rw [cell_of_row w6 _ 3 _ _ _ hg6]; rfl); have e3 : w6.frozen? ⟨w5.heap.size, 3, none⟩ = false := frozen_of_row w6 _ 3 _ _ hg6; have y4 : w6.cell? ⟨w5.heap.size, 4, none⟩ = some (.slice none 0 0) := (by rw [cell_of_row w6 _ 4 _ _ _ hg6]; rfl); have e4 : w6.frozen? ⟨w5.heap.size, 4, none⟩ = false := frozen_of_row w6 _ 4 _ _ hg6; have y5 : w6.cell? ⟨w5.heap.size, 5, none⟩ = some (.bool false) := (by rw [cell_of_row w6 _ 5 _ _ _ hg6]; rfl); have e5 : w6.frozen? ⟨w5.heap.size, 5, none⟩ = false := frozen_of_row w6 _ 5 _ _ hg6; have y6 : w6.cell? ⟨w5.heap.size, 6, none⟩ = some (.bool false) := (by rw [cell_of_row w6 _ 6 _ _ _ hg6]; rfl); have e6 : w6.frozen? ⟨w5.heap.size, 6, none⟩ = false := frozen_of_row w6 _ 6 _ _ hg6; have y7 : w6.cell? ⟨w5.heap.size, 7, none⟩ = some (.int .i64 0) := (by rw [cell_of_row w6 _ 7 _ _ _ hg6]; rfl); have e7 : w6.frozen? ⟨w5.heap.size, 7, none⟩ = false := frozen_of_row w6 _ 7 _ _ hg6; have y8 : w6.cell? ⟨w5.heap.size, 8, none⟩ = some (.int .i64 0) := (by rw [cell_of_row w6 _ 8 _ _ _ hg6]; rfl); have e8 : w6.frozen? ⟨w5.heap.size, 8, none⟩ = false := frozen_of_row w6 _ 8 _ _ hg6; have y9 : w6.cell? ⟨w5.heap.size, 9, none⟩ = some (.int .i64 0) := (by rw [cell_of_row w6 _ 9 _ _ _ hg6]; rfl); have e9 : w6.frozen? ⟨w5.heap.size, 9, none⟩ = false := frozen_of_row w6 _ 9 _ _ hg6; have HG6 := hid hg6; have HB6 := hid hb6; have HS6 := hid hs6; have HC6 := hid hc6; have HZ6 := hid hz6; have H50 := hid h50; have H51 := hid h51; clear hg6 hb6 hs6 hc6 hz6 h50 h51))
  obtain ⟨w7, hw7⟩ : ∃ W, w6 = W := ⟨_, rfl⟩
  rw [hw7]
  have hg7 : w7.heap[w5.heap.size]? = some (.cells #[.int .u8 z, .int .u8 0, .int .i64 0, .slice none 0 0, .slice none 0 0, .bool false, .bool false, .int .i64 0, .int .i64 0, .int .i64 0] 35 (0, 0)) := (by rw [← hw7]; exact HG6.out)
  have hk7 : ∀ j, j ≠ w5.heap.size → w7.heap[j]? = w6.heap[j]? := (by intro j hj; rw [← hw7]; skip)
  have hs7 : w7.heap.size = w6.heap.size := (by rw [← hw7]; skip)
  have hz7 := (hk7 (w.heap.size + 1) (by have := H51.out; omega)).trans HZ6.out
  have hb7 : Below w.heap.size w w7 := (by rw [← hw7]; exact (HB5.out.trans (HB6.out.mono (by have := H50.out; omega))))
  clear x0 g0 z0 f0 y0 e0 x1 g1 z1 f1 y1 e1 x2 g2 z2 f2 y2 e2 x3 g3 z3 f3 y3 e3 x4 g4 z4 f4 y4 e4 x5 g5 z5 f5 y5 e5 x6 g6 z6 f6 y6 e6 x7 g7 z7 f7 y7 e7 x8 g8 z8 f8 y8 e8 x9 g9 z9 f9 y9 e9 hw7
  have z0 : w7.cell? ⟨w.heap.size + 1, 0, none⟩ = some (.int .u8 0) := (by rw [cell_of_row w7 _ 0 _ _ _ hz7]; rfl)
  have f0 : w7.frozen? ⟨w.heap.size + 1, 0, none⟩ = false := frozen_of_row w7 _ 0 _ _ hz7
  have z1 : w7.cell? ⟨w.heap.size + 1, 1, none⟩ = some (.int .u8 0) := (by rw [cell_of_row w7 _ 1 _ _ _ hz7]; rfl)
  have f1 : w7.frozen? ⟨w.heap.size + 1, 1, none⟩ = false := frozen_of_row w7 _ 1 _ _ hz7
  have z2 : w7.cell? ⟨w.heap.size + 1, 2, none⟩ = some (.int .i64 0) := (by rw [cell_of_row w7 _ 2 _ _ _ hz7]; rfl)
  have f2 : w7.frozen? ⟨w.heap.size + 1, 2, none⟩ = false := frozen_of_row w7 _ 2 _ _ hz7
  have z3 : w7.cell? ⟨w.heap.size + 1, 3, none⟩ = some (.slice none 0 0) := (by rw [cell_of_row w7 _ 3 _ _ _ hz7]; rfl)
  have f3 : w7.frozen? ⟨w.heap.size + 1, 3, none⟩ = false := frozen_of_row w7 _ 3 _ _ hz7
  have z4 : w7.cell? ⟨w.heap.size + 1, 4, none⟩ = some (.slice none 0 0) := (by rw [cell_of_row w7 _ 4 _ _ _ hz7]; rfl)
  have f4 : w7.frozen? ⟨w.heap.size + 1, 4, none⟩ = false := frozen_of_row w7 _ 4 _ _ hz7
  have z5 : w7.cell? ⟨w.heap.size + 1, 5, none⟩ = some (.bool false) := (by rw [cell_of_row w7 _ 5 _ _ _ hz7]; rfl)
  have f5 : w7.frozen? ⟨w.heap.size + 1, 5, none⟩ = false := frozen_of_row w7 _ 5 _ _ hz7
  have z6 : w7.cell? ⟨w.heap.size + 1, 6, none⟩ = some (.bool false) := (by rw [cell_of_row w7 _ 6 _ _ _ hz7]; rfl)
  have f6 : w7.frozen? ⟨w.heap.size + 1, 6, none⟩ = false := frozen_of_row w7 _ 6 _ _ hz7
  have z7 : w7.cell? ⟨w.heap.size + 1, 7, none⟩ = some (.int .i64 0) := (by rw [cell_of_row w7 _ 7 _ _ _ hz7]; rfl)
  have f7 : w7.frozen? ⟨w.heap.size + 1, 7, none⟩ = false := frozen_of_row w7 _ 7 _ _ hz7
  have z8 : w7.cell? ⟨w.heap.size + 1, 8, none⟩ = some (.int .i64 0) := (by rw [cell_of_row w7 _ 8 _ _ _ hz7]; rfl)
  have f8 : w7.frozen? ⟨w.heap.size + 1, 8, none⟩ = false := frozen_of_row w7 _ 8 _ _ hz7
  have z9 : w7.cell? ⟨w.heap.size + 1, 9, none⟩ = some (.int .i64 0) := (by rw [cell_of_row w7 _ 9 _ _ _ hz7]; rfl)
  have f9 : w7.frozen? ⟨w.heap.size + 1, 9, none⟩ = false := frozen_of_row w7 _ 9 _ _ hz7

  have y0 : w7.cell? ⟨w5.heap.size, 0, none⟩ = some (.int .u8 z) := (by rw [cell_of_row w7 _ 0 _ _ _ hg7]; rfl)
  have y1 : w7.cell? ⟨w5.heap.size, 1, none⟩ = some (.int .u8 0) := (by rw [cell_of_row w7 _ 1 _ _ _ hg7]; rfl)
  have y2 : w7.cell? ⟨w5.heap.size, 2, none⟩ = some (.int .i64 0) := (by rw [cell_of_row w7 _ 2 _ _ _ hg7]; rfl)
  have y3 : w7.cell? ⟨w5.heap.size, 3, none⟩ = some (.slice none 0 0) := (by rw [cell_of_row w7 _ 3 _ _ _ hg7]; rfl)
  have y4 : w7.cell? ⟨w5.heap.size, 4, none⟩ = some (.slice none 0 0) := (by rw [cell_of_row w7 _ 4 _ _ _ hg7]; rfl)
  have y5 : w7.cell? ⟨w5.heap.size, 5, none⟩ = some (.bool false) := (by rw [cell_of_row w7 _ 5 _ _ _ hg7]; rfl)
  have y6 : w7.cell? ⟨w5.heap.size, 6, none⟩ = some (.bool false) := (by rw [cell_of_row w7 _ 6 _ _ _ hg7]; rfl)
  have y7 : w7.cell? ⟨w5.heap.size, 7, none⟩ = some (.int .i64 0) := (by rw [cell_of_row w7 _ 7 _ _ _ hg7]; rfl)
  have y8 : w7.cell? ⟨w5.heap.size, 8, none⟩ = some (.int .i64 0) := (by rw [cell_of_row w7 _ 8 _ _ _ hg7]; rfl)
  have y9 : w7.cell? ⟨w5.heap.size, 9, none⟩ = some (.int .i64 0) := (by rw [cell_of_row w7 _ 9 _ _ _ hg7]; rfl)

  have HZ7 := hid hz7
  have HB7 := hid hb7
  have HK7 := hid hk7
  have HS7 := hid hs7
  clear hg7 hk7 hs7 hz7 hb7
  obtain ⟨g8, k8, s8, b8⟩ := set10 HZ7.out (.int .u8 z) (.int .u8 0) (.int .i64 0) (.slice none 0 0) (.slice none 0 0) (.bool false) (.bool false) (.int .i64 0) (.int .i64 0) (.int .i64 0)
  have hb8 := b8 HB7.out (by omega)
  generalize ((((((((((w7).setCell ⟨w.heap.size + 1, 0, none⟩ (.int .u8 z)).setCell ⟨w.heap.size + 1, 1, none⟩ (.int .u8 0)).setCell ⟨w.heap.size + 1, 2, none⟩ (.int .i64 0)).setCell ⟨w.heap.size + 1, 3, none⟩ (.slice none 0 0)).setCell ⟨w.heap.size + 1, 4, none⟩ (.slice none 0 0)).setCell ⟨w.heap.size + 1, 5, none⟩ (.bool false)).setCell ⟨w.heap.size + 1, 6, none⟩ (.bool false)).setCell ⟨w.heap.size + 1, 7, none⟩ (.int .i64 0)).setCell ⟨w.heap.size + 1, 8, none⟩ (.int .i64 0)).setCell ⟨w.heap.size + 1, 9, none⟩ (.int .i64 0) = w8 at *
  have q0 : w8.cell? ⟨w.heap.size + 1, 0, none⟩ = some (.int .u8 z) := (by rw [cell_of_row w8 _ 0 _ _ _ g8]; rfl)
  have q1 : w8.cell? ⟨w.heap.size + 1, 1, none⟩ = some (.int .u8 0) := (by rw [cell_of_row w8 _ 1 _ _ _ g8]; rfl)
  have q2 : w8.cell? ⟨w.heap.size + 1, 2, none⟩ = some (.int .i64 0) := (by rw [cell_of_row w8 _ 2 _ _ _ g8]; rfl)
  have q3 : w8.cell? ⟨w.heap.size + 1, 3, none⟩ = some (.slice none 0 0) := (by rw [cell_of_row w8 _ 3 _ _ _ g8]; rfl)
  have q4 : w8.cell? ⟨w.heap.size + 1, 4, none⟩ = some (.slice none 0 0) := (by rw [cell_of_row w8 _ 4 _ _ _ g8]; rfl)
  have q5 : w8.cell? ⟨w.heap.size + 1, 5, none⟩ = some (.bool false) := (by rw [cell_of_row w8 _ 5 _ _ _ g8]; rfl)
  have q6 : w8.cell? ⟨w.heap.size + 1, 6, none⟩ = some (.bool false) := (by rw [cell_of_row w8 _ 6 _ _ _ g8]; rfl)
  have q7 : w8.cell? ⟨w.heap.size + 1, 7, none⟩ = some (.int .i64 0) := (by rw [cell_of_row w8 _ 7 _ _ _ g8]; rfl)
  have q8 : w8.cell? ⟨w.heap.size + 1, 8, none⟩ = some (.int .i64 0) := (by rw [cell_of_row w8 _ 8 _ _ _ g8]; rfl)
  have q9 : w8.cell? ⟨w.heap.size + 1, 9, none⟩ = some (.int .i64 0) := (by rw [cell_of_row w8 _ 9 _ _ _ g8]; rfl)
  refine bodyPost_ret (v := .agg #[.int .u8 z, .int .u8 0, .int .i64 0, .slice none 0 0, .slice none 0 0, .bool false, .bool false, .int .i64 0, .int .i64 0, .int .i64 0]) (by simp [results, Tryd.results14, go_sem, q0, q1, q2, q3, q4, q5, q6, q7, q8, q9]) rfl ?_
  obtain rfl := HZZ.out
  exact ⟨hb8, none, 0, none, 0, rfl, NLL.nil, NLL.nil⟩

set_option maxRecDepth 100000 in
set_option maxHeartbeats 4000000 in
theorem made_k2 (k r : Nat) (lv : Int) (A B : List (List Nat)) (imp pol : Bool) (ln co er : Int) (pA pB : Option Addr) (cA cB : Nat) (m c : Nat) (R : Nat → Prop) (w : World) (hk : k % 4 = 2) (hk255 : k ≤ 255) (hr255 : r ≤ 255) (hm : 1 ≤ m ∧ m ≤ 1000) (hc : c ≤ 1000) (hlv : -9223372036854775808 ≤ lv ∧ lv ≤ 9223372036854775807) (her : -9223372036854775808 ≤ er ∧ er ≤ 9223372036854775807) (hA : NLL R w (.slice pA A.length cA) A) (hB : NLL R w (.slice pB B.length cB) B) (hR : ∀ i, R i → i < w.heap.size) (hlA : ∀ x ∈ A, x.length ≤ 17592186044415) (hlB : ∀ x ∈ B, x.length ≤ 17592186044415) :
    Calls Tryd.prog 14 #[.agg #[.int .u8 (k : Int), .int .u8 (r : Int), .int .i64 lv, .slice pA A.length cA, .slice pB B.length cB, .bool imp, .bool pol, .int .i64 ln, .int .i64 co, .int .i64 er], .int .i64 (m : Int), .int .i64 (c : Int)] w (MadePost ⟨k, r, lv, A, B, imp, pol, ln, co, er⟩ m c w) := by
  obtain ⟨W0, hW0⟩ : ∃ W, (w.alloc (.cells #[.int .u8 (k : Int), .int .u8 (r : Int), .int .i64 lv, .slice pA A.length cA, .slice pB B.length cB, .bool imp, .bool pol, .int .i64 ln, .int .i64 co, .int .i64 er] 35)).alloc (.cells #[.int .u8 0, .int .u8 0, .int .i64 0, .slice none 0 0, .slice none 0 0, .bool false, .bool false, .int .i64 0, .int .i64 0, .int .i64 0] 35) = W := ⟨_, rfl⟩
  have hb0 : Below w.heap.size w W0 := by rw [← hW0]; exact ((Below.refl _ _).alloc (Nat.le_refl _) _).alloc (by rw [World.size_alloc]; omega) _
  have hz0 : W0.heap.size = w.heap.size + 2 := by rw [← hW0, World.size_alloc, World.size_alloc]
  have hc0 : W0.heap[w.heap.size]? = some (.cells #[.int .u8 (k : Int), .int .u8 (r : Int), .int .i64 lv, .slice pA A.length cA, .slice pB B.length cB, .bool imp, .bool pol, .int .i64 ln, .int .i64 co, .int .i64 er] 35 (0, 0)) := by rw [← hW0, heap_al, if_neg (by rw [World.size_alloc]; omega), heap_al, if_pos rfl]
  have hc1 : W0.heap[w.heap.size + 1]? = some (.cells #[.int .u8 0, .int .u8 0, .int .i64 0, .slice none 0 0, .slice none 0 0, .bool false, .bool false, .int .i64 0, .int .i64 0, .int .i64 0] 35 (0, 0)) := by rw [← hW0, heap_al, if_pos (by rw [World.size_alloc])]
  have HFEW := hid (few_any k r lv A B imp pol ln co er pA pB cA cB R W0 (hA.keep fun i hi => ⟨hi, hb0.block i (hR i hi)⟩) (hB.keep fun i hi => ⟨hi, hb0.block i (hR i hi)⟩) (fun i hi => by have := hR i hi; omega) hlA hlB)
  have HB0 := hid hb0; have HZ := hid hz0; have HC0 := hid hc0; have HZ0 := hid hc1; have HWW := hid hW0
  obtain ⟨q, hq, hq3⟩ : ∃ q : Nat, (r : Int) % 4 = (q : Int) ∧ q = r % 4 := ⟨r % 4, by omega, rfl⟩
  have hq4 : q ≤ 3 := by omega
  have hkq : (k : Int) % 4 = 2 := by omega
  have HMV := hid (show madeV ⟨k, r, lv, A, B, imp, pol, ln, co, er⟩ m c = ⟨2, 1 + q, 0, [], [], false, false, 0, 0, 0⟩ from by unfold madeV; rw [if_pos hk, hq3])
  have HQ3 := hid hq3
  clear hk hq3
  clear hA hB hR hlA hlB hb0 hz0 hc0 hc1 hW0
  unfold FewPost at HFEW
  unfold MadePost
  rw [HMV.out]
  generalize cutL A = LA at *
  generalize cutL B = LB at *
  go_enter Tryd.func14, Tryd.ntmps14
  go_wp2_with fail
  rw [HWW.out]
  refine HFEW.out.mono ?_
  rintro e w2 ⟨hb2, p1, c1, p2, c2, rfl, hn1, hn2⟩
  have hC2 := (hb2.block w.heap.size (by rw [HZ.out]; omega)).trans HC0.out
  have hZ2 := (hb2.block (w.heap.size + 1) (by rw [HZ.out]; omega)).trans HZ0.out
  have x0 : w2.cell? ⟨w.heap.size, 0, none⟩ = some (.int .u8 (k : Int)) := (by rw [cell_of_row w2 _ 0 _ _ _ hC2]; rfl)
  have f0 : w2.frozen? ⟨w.heap.size, 0, none⟩ = false := frozen_of_row w2 _ 0 _ _ hC2
  have x1 : w2.cell? ⟨w.heap.size, 1, none⟩ = some (.int .u8 (r : Int)) := (by rw [cell_of_row w2 _ 1 _ _ _ hC2]; rfl)
  have f1 : w2.frozen? ⟨w.heap.size, 1, none⟩ = false := frozen_of_row w2 _ 1 _ _ hC2
  have x2 : w2.cell? ⟨w.heap.size, 2, none⟩ = some (.int .i64 lv) := (by rw [cell_of_row w2 _ 2 _ _ _ hC2]; rfl)
  have f2 : w2.frozen? ⟨w.heap.size, 2, none⟩ = false := frozen_of_row w2 _ 2 _ _ hC2
  have x3 : w2.cell? ⟨w.heap.size, 3, none⟩ = some (.slice pA A.length cA) := (by rw [cell_of_row w2 _ 3 _ _ _ hC2]; rfl)
  have f3 : w2.frozen? ⟨w.heap.size, 3, none⟩ = false := frozen_of_row w2 _ 3 _ _ hC2
  have x4 : w2.cell? ⟨w.heap.size, 4, none⟩ = some (.slice pB B.length cB) := (by rw [cell_of_row w2 _ 4 _ _ _ hC2]; rfl)
  have f4 : w2.frozen? ⟨w.heap.size, 4, none⟩ = false := frozen_of_row w2 _ 4 _ _ hC2
  have x5 : w2.cell? ⟨w.heap.size, 5, none⟩ = some (.bool imp) := (by rw [cell_of_row w2 _ 5 _ _ _ hC2]; rfl)
  have f5 : w2.frozen? ⟨w.heap.size, 5, none⟩ = false := frozen_of_row w2 _ 5 _ _ hC2
  have x6 : w2.cell? ⟨w.heap.size, 6, none⟩ = some (.bool pol) := (by rw [cell_of_row w2 _ 6 _ _ _ hC2]; rfl)
  have f6 : w2.frozen? ⟨w.heap.size, 6, none⟩ = false := frozen_of_row w2 _ 6 _ _ hC2
  have x7 : w2.cell? ⟨w.heap.size, 7, none⟩ = some (.int .i64 ln) := (by rw [cell_of_row w2 _ 7 _ _ _ hC2]; rfl)
  have f7 : w2.frozen? ⟨w.heap.size, 7, none⟩ = false := frozen_of_row w2 _ 7 _ _ hC2
  have x8 : w2.cell? ⟨w.heap.size, 8, none⟩ = some (.int .i64 co) := (by rw [cell_of_row w2 _ 8 _ _ _ hC2]; rfl)
  have f8 : w2.frozen? ⟨w.heap.size, 8, none⟩ = false := frozen_of_row w2 _ 8 _ _ hC2
  have x9 : w2.cell? ⟨w.heap.size, 9, none⟩ = some (.int .i64 er) := (by rw [cell_of_row w2 _ 9 _ _ _ hC2]; rfl)
  have f9 : w2.frozen? ⟨w.heap.size, 9, none⟩ = false := frozen_of_row w2 _ 9 _ _ hC2
  have HC2 := hid hC2; have HZ2 := hid hZ2
  have HB2 := hid (HB0.out.trans (hb2.mono HB0.out.size)); have HN1 := hid hn1; have HN2 := hid hn2; have HBF := hid hb2
  clear hC2 hZ2 hb2 hn1 hn2
  go_wp2_with (first | (obtain ⟨w5, hw5⟩ : ∃ W, ((((((((((w2).setCell ⟨w.heap.size, 0, none⟩ (.int .u8 (k : Int))).setCell ⟨w.heap.size, 1, none⟩ (.int .u8 (r : Int))).setCell ⟨w.heap.size, 2, none⟩ (.int .i64 lv)).setCell ⟨w.heap.size, 3, none⟩ (.slice p1 LA.length c1)).setCell ⟨w.heap.size, 4, none⟩ (.slice p2 LB.length c2)).setCell ⟨w.heap.size, 5, none⟩ (.bool imp)).setCell ⟨w.heap.size, 6, none⟩ (.bool pol)).setCell ⟨w.heap.size, 7, none⟩ (.int .i64 ln)).setCell ⟨w.heap.size, 8, none⟩ (.int .i64 co)).setCell ⟨w.heap.size, 9, none⟩ (.int .i64 er) = W := ⟨_, rfl⟩; rw [hw5]; obtain ⟨hg5, hk5, hs5, hb5⟩ := set10 HC2.out (.int .u8 (k : Int)) (.int .u8 (r : Int)) (.int .i64 lv) (.slice p1 LA.length c1) (.slice p2 LB.length c2) (.bool imp) (.bool pol) (.int .i64 ln) (.int .i64 co) (.int .i64 er); have hb5 := hb5 HB2.out (Nat.le_refl _); rw [hw5] at hg5 hk5 hs5 hb5; clear x0 f0 x1 f1 x2 f2 x3 f3 x4 f4 x5 f5 x6 f6 x7 f7 x8 f8 x9 f9 hw5; have x0 : w5.cell? ⟨w.heap.size, 0, none⟩ = some (.int .u8 (k : Int)) := (by rw [cell_of_row w5 _ 0 _ _ _ hg5]; rfl); have x1 : w5.cell? ⟨w.heap.size, 1, none⟩ = some (.int .u8 (r : Int)) := (by rw [cell_of_row w5 _ 1 _ _ _ hg5]; rfl); have x2 : w5.cell? ⟨w.heap.size, 2, none⟩ = some (.int .i64 lv) := (by rw [cell_of_row w5 _ 2 _ _ _ hg5]; rfl); have x3 : w5.cell? ⟨w.heap.size, 3, none⟩ = some (.slice p1 LA.length c1) := (by rw [cell_of_row w5 _ 3 _ _ _ hg5]; rfl); have x4 : w5.cell? ⟨w.heap.size, 4, none⟩ = some (.slice p2 LB.length c2) := (by rw [cell_of_row w5 _ 4 _ _ _ hg5]; rfl); have x5 : w5.cell? ⟨w.heap.size, 5, none⟩ = some (.bool imp) := (by rw [cell_of_row w5 _ 5 _ _ _ hg5]; rfl); have x6 : w5.cell? ⟨w.heap.size, 6, none⟩ = some (.bool pol) := (by rw [cell_of_row w5 _ 6 _ _ _ hg5]; rfl); have x7 : w5.cell? ⟨w.heap.size, 7, none⟩ = some (.int .i64 ln) := (by rw [cell_of_row w5 _ 7 _ _ _ hg5]; rfl); have x8 : w5.cell? ⟨w.heap.size, 8, none⟩ = some (.int .i64 co) := (by rw [cell_of_row w5 _ 8 _ _ _ hg5]; rfl); have x9 : w5.cell? ⟨w.heap.size, 9, none⟩ = some (.int .i64 er) := (by rw [cell_of_row w5 _ 9 _ _ _ hg5]; rfl); have hz5 := (hk5 (w.heap.size + 1) (by omega)).trans HZ2.out; have z0 : w5.cell? ⟨w.heap.size + 1, 0, none⟩ = some (.int .u8 0) := (by rw [cell_of_row w5 _ 0 _ _ _ hz5]; rfl); have f0 : w5.frozen? ⟨w.heap.size + 1, 0, none⟩ = false := frozen_of_row w5 _ 0 _ _ hz5; have z1 : w5.cell? ⟨w.heap.size + 1, 1, none⟩ = some (.int .u8 0) := (by rw [cell_of_row w5 _ 1 _ _ _ hz5]; rfl); have f1 : w5.frozen? ⟨w.heap.size + 1, 1, none⟩ = false := frozen_of_row w5 _ 1 _ _ hz5; have z2 : w5.cell? ⟨w.heap.size + 1, 2, none⟩ = some (.int .i64 0) := (by rw [cell_of_row w5 _ 2 _ _ _ hz5]; rfl); have f2 : w5.frozen? ⟨w.heap.size + 1, 2, none⟩ = false := frozen_of_row w5 _ 2 _ _ hz5; have z3 : w5.cell? ⟨w.heap.size + 1, 3, none⟩ = some (.slice none 0 0) := (by rw [cell_of_row w5 _ 3 _ _ _ hz5]; rfl); have f3 : w5.frozen? ⟨w.heap.size + 1, 3, none⟩ = false := frozen_of_row w5 _ 3 _ _ hz5; have z4 : w5.cell? ⟨w.heap.size + 1, 4, none⟩ = some (.slice none 0 0) := (by rw [cell_of_row w5 _ 4 _ _ _ hz5]; rfl); have f4 : w5.frozen? ⟨w.heap.size + 1, 4, none⟩ = false := frozen_of_row w5 _ 4 _ _ hz5; have z5 : w5.cell? ⟨w.heap.size + 1, 5, none⟩ = some (.bool false) := (by rw [cell_of_row w5 _ 5 _ _ _ hz5]; rfl); have f5 : w5.frozen? ⟨w.heap.size + 1, 5, none⟩ = false := frozen_of_row w5 _ 5 _ _ hz5; have z6 : w5.cell? ⟨w.heap.size + 1, 6, none⟩ = some (.bool false) := (by rw [cell_of_row w5 _ 6 _ _ _ hz5]; rfl); have f6 : w5.frozen? ⟨w.heap.size + 1, 6, none⟩ = false := frozen_of_row w5 _ 6 _ _ hz5; have z7 : w5.cell? ⟨w.heap.size + 1, 7, none⟩ = some (.int .i64 0) := (by rw [cell_of_row w5 _ 7 _ _ _ hz5]; rfl); have f7 : w5.frozen? ⟨w.heap.size + 1, 7, none⟩ = false := frozen_of_row w5 _ 7 _ _ hz5; have z8 : w5.cell? ⟨w.heap.size + 1, 8, none⟩ = some (.int .i64 0) := (by rw [cell_of_row w5 _ 8 _ _ _ hz5]; rfl); have f8 : w5.frozen? ⟨w.heap.size + 1, 8, none⟩ = false := frozen_of_row w5 _ 8 _ _ hz5; have z9 : w5.cell? ⟨w.heap.size + 1, 9, none⟩ = some (.int .i64 0) := (by rw [cell_of_row w5 _ 9 _ _ _ hz5]; rfl); have f9 : w5.frozen? ⟨w.heap.size + 1, 9, none⟩ = false := frozen_of_row w5 _ 9 _ _ hz5; have HG5 := hid hg5; have HK5 := hid hk5; have HS5 := hid hs5; have HB5 := hid hb5; have HZ5 := hid hz5; clear hg5 hk5 hs5 hb5 hz5) | (obtain ⟨w6, hw6⟩ : ∃ W, w5.alloc (.cells #[.int .u8 2, .int .u8 0, .int .i64 0, .slice none 0 0, .slice none 0 0, .bool false, .bool false, .int .i64 0, .int .i64 0, .int .i64 0] 35) = W := ⟨_, rfl⟩; rw [hw6]; have hg6 : w6.heap[w5.heap.size]? = some (.cells #[.int .u8 2, .int .u8 0, .int .i64 0, .slice none 0 0, .slice none 0 0, .bool false, .bool false, .int .i64 0, .int .i64 0, .int .i64 0] 35 (0, 0)) := (by rw [← hw6, heap_al, if_pos rfl]); have hb6 : Below w5.heap.size w5 w6 := (by rw [← hw6]; exact (Below.refl _ _).alloc (Nat.le_refl _) _); have hs6 : w6.heap.size = w5.heap.size + 1 := (by rw [← hw6, World.size_alloc]); have h50 : w.heap.size < w5.heap.size := (by have := HBF.out.size; have := HS5.out; have := HZ.out; omega); have h51 : w.heap.size + 1 < w5.heap.size := (by have := HBF.out.size; have := HS5.out; have := HZ.out; omega); have hc6 := (hb6.block w.heap.size h50).trans HG5.out; have hz6 := (hb6.block (w.heap.size + 1) h51).trans HZ5.out; clear x0 z0 f0 x1 z1 f1 x2 z2 f2 x3 z3 f3 x4 z4 f4 x5 z5 f5 x6 z6 f6 x7 z7 f7 x8 z8 f8 x9 z9 f9 hw6; have x0 : w6.cell? ⟨w.heap.size, 0, none⟩ = some (.int .u8 (k : Int)) := (by rw [cell_of_row w6 _ 0 _ _ _ hc6]; rfl); have g0 : w6.frozen? ⟨w.heap.size, 0, none⟩ = false := frozen_of_row w6 _ 0 _ _ hc6; have x1 : w6.cell? ⟨w.heap.size, 1, none⟩ = some (.int .u8 (r : Int)) := (by rw [cell_of_row w6 _ 1 _ _ _ hc6]; rfl); have g1 : w6.frozen? ⟨w.heap.size, 1, none⟩ = false := frozen_of_row w6 _ 1 _ _ hc6; have x2 : w6.cell? ⟨w.heap.size, 2, none⟩ = some (.int .i64 lv) := (by rw [cell_of_row w6 _ 2 _ _ _ hc6]; rfl); have g2 : w6.frozen? ⟨w.heap.size, 2, none⟩ = false := frozen_of_row w6 _ 2 _ _ hc6; have x3 : w6.cell? ⟨w.heap.size, 3, none⟩ = some (.slice p1 LA.length c1) := (by rw [cell_of_row w6 _ 3 _ _ _ hc6]; rfl); have g3 : w6.frozen? ⟨w.heap.size, 3, none⟩ = false := frozen_of_row w6 _ 3 _ _ hc6; have x4 : w6.cell? ⟨w.heap.size, 4, none⟩ = some (.slice p2 LB.length c2) := (by rw [cell_of_row w6 _ 4 _ _ _ hc6]; rfl); have g4 : w6.frozen? ⟨w.heap.size, 4, none⟩ = false := frozen_of_row w6 _ 4 _ _ hc6; have x5 : w6.cell? ⟨w.heap.size, 5, none⟩ = some (.bool imp) := (by rw [cell_of_row w6 _ 5 _ _ _ hc6]; rfl); have g5 : w6.frozen? ⟨w.heap.size, 5, none⟩ = false := frozen_of_row w6 _ 5 _ _ hc6; have x6 : w6.cell? ⟨w.heap.size, 6, none⟩ = some (.bool pol) := (by rw [cell_of_row w6 _ 6 _ _ _ hc6]; rfl); have g6 : w6.frozen? ⟨w.heap.size, 6, none⟩ = false := frozen_of_row w6 _ 6 _ _ hc6; have x7 : w6.cell? ⟨w.heap.size, 7, none⟩ = some (.int .i64 ln) := (by rw [cell_of_row w6 _ 7 _ _ _ hc6]; rfl); have g7 : w6.frozen? ⟨w.heap.size, 7, none⟩ = false := frozen_of_row w6 _ 7 _ _ hc6; have x8 : w6.cell? ⟨w.heap.size, 8, none⟩ = some (.int .i64 co) := (by rw [cell_of_row w6 _ 8 _ _ _ hc6]; rfl); have g8 : w6.frozen? ⟨w.heap.size, 8, none⟩ = false := frozen_of_row w6 _ 8 _ _ hc6; have x9 : w6.cell? ⟨w.heap.size, 9, none⟩ = some (.int .i64 er) := (by rw [cell_of_row w6 _ 9 _ _ _ hc6]; rfl); have g9 : w6.frozen? ⟨w.heap.size, 9, none⟩ = false := frozen_of_row w6 _ 9 _ _ hc6; have z0 : w6.cell? ⟨w.heap.size + 1, 0, none⟩ = some (.int .u8 0) := (by rw [cell_of_row w6 _ 0 _ _ _ hz6]; rfl); have f0 : w6.frozen? ⟨w.heap.size + 1, 0, none⟩ = false := frozen_of_row w6 _ 0 _ _ hz6; have z1 : w6.cell? ⟨w.heap.size + 1, 1, none⟩ = some (.int .u8 0) := (by rw [cell_of_row w6 _ 1 _ _ _ hz6]; rfl); have f1 : w6.frozen? ⟨w.heap.size + 1, 1, none⟩ = false := frozen_of_row w6 _ 1 _ _ hz6; have z2 : w6.cell? ⟨w.heap.size + 1, 2, none⟩ = some (.int .i64 0) := (by rw [cell_of_row w6 _ 2 _ _ _ hz6]; rfl); have f2 : w6.frozen? ⟨w.heap.size + 1, 2, none⟩ = false := frozen_of_row w6 _ 2 _ _ hz6; have z3 : w6.cell? ⟨w.heap.size + 1, 3, none⟩ = some (.slice none 0 0) := (by rw [cell_of_row w6 _ 3 _ _ _ hz6]; rfl); have f3 : w6.frozen? ⟨w.heap.size + 1, 3, none⟩ = false := frozen_of_row w6 _ 3 _ _ hz6; have z4 : w6.cell? ⟨w.heap.size + 1, 4, none⟩ = some (.slice none 0 0) := (by rw [cell_of_row w6 _ 4 _ _ _ hz6]; rfl); have f4 : w6.frozen? ⟨w.heap.size + 1, 4, none⟩ = false := frozen_of_row w6 _ 4 _ _ hz6; have z5 : w6.cell? ⟨w.heap.size + 1, 5, none⟩ = some (.bool false) := (by rw [cell_of_row w6 _ 5 _ _ _ hz6]; rfl); have f5 : w6.frozen? ⟨w.heap.size + 1, 5, none⟩ = false := frozen_of_row w6 _ 5 _ _ hz6; have z6 : w6.cell? ⟨w.heap.size + 1, 6, none⟩ = some (.bool false) := (by rw [cell_of_row w6 _ 6 _ _ _ hz6]; rfl); have f6 : w6.frozen? ⟨w.heap.size + 1, 6, none⟩ = false := frozen_of_row w6 _ 6 _ _ hz6; have z7 : w6.cell? ⟨w.heap.size + 1, 7, none⟩ = some (.int .i64 0) := (by rw [cell_of_row w6 _ 7 _ _ _ hz6]; rfl); have f7 : w6.frozen? ⟨w.heap.size + 1, 7, none⟩ = false := frozen_of_row w6 _ 7 _ _ hz6; have z8 : w6.cell? ⟨w.heap.size + 1, 8, none⟩ = some (.int .i64 0) := (by rw [cell_of_row w6 _ 8 _ _ _ hz6]; rfl); have f8 : w6.frozen? ⟨w.heap.size + 1, 8, none⟩ = false := frozen_of_row w6 _ 8 _ _ hz6; have z9 : w6.cell? ⟨w.heap.size + 1, 9, none⟩ = some (.int .i64 0) := (by rw [cell_of_row w6 _ 9 _ _ _ hz6]; rfl); have f9 : w6.frozen? ⟨w.heap.size + 1, 9, none⟩ = false := frozen_of_row w6 _ 9 _ _ hz6; have y0 : w6.cell? ⟨w5.heap.size, 0, none⟩ = some (.int .u8 2) := (by rw [cell_of_row w6 _ 0 _ _ _ hg6]; rfl); have e0 : w6.frozen? ⟨w5.heap.size, 0, none⟩ = false := frozen_of_row w6 _ 0 _ _ hg6; have y1 : w6.cell? ⟨w5.heap.size, 1, none⟩ = some (.int .u8 0) := (by rw [cell_of_row w6 _ 1 _ _ _ hg6]; rfl); have e1 : w6.frozen? ⟨w5.heap.size, 1, none⟩ = false := frozen_of_row w6 _ 1 _ _ hg6; have y2 : w6.cell? ⟨w5.heap.size, 2, none⟩ = some (.int .i64 0) := (by rw [cell_of_row w6 _ 2 _ _ _ hg6]; rfl); have e2 : w6.frozen? ⟨w5.heap.size, 2, none⟩ = false := frozen_of_row w6 _ 2 _ _ hg6; have y3 : w6.cell? ⟨w5.heap.size, 3, none⟩ = some (.slice none 0 0) := (by rw [cell_of_row w6 _ 3 _ _ _ hg6]; rfl); have e3 : w6.frozen? ⟨w5.heap.size, 3, none⟩ = false := frozen_of_row w6 _ 3 _ _ hg6; have y4 : w6.cell? ⟨w5.heap.size, 4, none⟩ = some (.slice none 0 0) := (by rw [cell_of_row w6 _ 4 _ _ _ hg6]; rfl); have e4 : w6.frozen? ⟨w5.heap.size, 4, none⟩ = false := frozen_of_row w6 _ 4 _ _ hg6; have y5 : w6.cell? ⟨w5.heap.size, 5, none⟩ = some (.bool false) := (by rw [cell_of_row w6 _ 5 _ _ _ hg6]; rfl); have e5 : w6.frozen? ⟨w5.heap.size, 5, none⟩ = false := frozen_of_row w6 _ 5 _ _ hg6; have y6 : w6.cell? ⟨w5.heap.size, 6, none⟩ = some (.bool false) := (by rw [cell_of_row w6 _ 6 _ _ _ hg6]; rfl); have e6 : w6.frozen? ⟨w5.heap.size, 6, none⟩ = false := frozen_of_row w6 _ 6 _ _ hg6; have y7 : w6.cell? ⟨w5.heap.size, 7, none⟩ = some (.int .i64 0) := (by rw [cell_of_row w6 _ 7 _ _ _ hg6]; rfl); have e7 : w6.frozen? ⟨w5.heap.size, 7, none⟩ = false := frozen_of_row w6 _ 7 _ _ hg6; have y8 : w6.cell? ⟨w5.heap.size, 8, none⟩ = some (.int .i64 0) := (by rw [cell_of_row w6 _ 8 _ _ _ hg6]; rfl); have e8 : w6.frozen? ⟨w5.heap.size, 8, none⟩ = false := frozen_of_row w6 _ 8 _ _ hg6; have y9 : w6.cell? ⟨w5.heap.size, 9, none⟩ = some (.int .i64 0) := (by rw [cell_of_row w6 _ 9 _ _ _ hg6]; rfl); have e9 : w6.frozen? ⟨w5.heap.size, 9, none⟩ = false := frozen_of_row w6 _ 9 _ _ hg6; have HG6 := hid hg6; have HB6 := hid hb6; have HS6 := hid hs6; have HC6 := hid hc6; have HZ6 := hid hz6; have H50 := hid h50; have H51 := hid h51; clear hg6 hb6 hs6 hc6 hz6 h50 h51) | (obtain ⟨w7, hw7⟩ : ∃ W, w6.setCell ⟨w5.heap.size, 1, none⟩ (.int .u8 (1 + (q : Int))) = W := ⟨_, rfl⟩; rw [hw7]; have hg7 : w7.heap[w5.heap.size]? = some (.cells #[.int .u8 2, .int .u8 (1 + (q : Int)), .int .i64 0, .slice none 0 0, .slice none 0 0, .bool false, .bool false, .int .i64 0, .int .i64 0, .int .i64 0] 35 (0, 0)) := (by rw [← hw7]; exact heap_set_cell HG6.out _); have hk7 : ∀ j, j ≠ w5.heap.size → w7.heap[j]? = w6.heap[j]? := (by intro j hj; rw [← hw7]; exact Below.heap_setCell _ _ _ _ hj); have hs7 : w7.heap.size = w6.heap.size := (by rw [← hw7]; exact World.size_setCell _ _ _); have hz7 := (hk7 (w.heap.size + 1) (by have := H51.out; omega)).trans HZ6.out; have hb7 : Below w.heap.size w w7 := (by rw [← hw7]; exact ((HB5.out.trans (HB6.out.mono (by have := H50.out; omega)))).setCell (by have := H50.out; exact Nat.le_of_lt this) _); clear x0 g0 z0 f0 y0 e0 x1 g1 z1 f1 y1 e1 x2 g2 z2 f2 y2 e2 x3 g3 z3 f3 y3 e3 x4 g4 z4 f4 y4 e4 x5 g5 z5 f5 y5 e5 x6 g6 z6 f6 y6 e6 x7 g7 z7 f7 y7 e7 x8 g8 z8 f8 y8 e8 x9 g9 z9 f9 y9 e9 hw7; have z0 : w7.cell? ⟨w.heap.size + 1, 0, none⟩ = some (.int .u8 0) := (by rw [cell_of_row w7 _ 0 _ _ _ hz7]; rfl); have f0 : w7.frozen? ⟨w.heap.size + 1, 0, none⟩ = false := frozen_of_row w7 _ 0 _ _ hz7; have z1 : w7.cell? ⟨w.heap.size + 1, 1, none⟩ = some (.int .u8 0) := (by rw [cell_of_row w7 _ 1 _ _ _ hz7]; rfl); have f1 : w7.frozen? ⟨w.heap.size + 1, 1, none⟩ = false := frozen_of_row w7 _ 1 _ _ hz7; have z2 : w7.cell? ⟨w.heap.size + 1, 2, none⟩ = some (.int .i64 0) := (by rw [cell_of_row w7 _ 2 _ _ _ hz7]; rfl); have f2 : w7.frozen? ⟨w.heap.size + 1, 2, none⟩ = false := frozen_of_row w7 _ 2 _ _ hz7; have z3 : w7.cell? ⟨w.heap.size + 1, 3, none⟩ = some (.slice none 0 0) := (by rw [cell_of_row w7 _ 3 _ _ _ hz7]; rfl); have f3 : w7.frozen? ⟨w.heap.size + 1, 3, none⟩ = false := frozen_of_row w7 _ 3 _ _ hz7; have z4 : w7.cell? ⟨w.heap.size + 1, 4, none⟩ = some (.slice none 0 0) := (by rw [cell_of_row w7 _ 4 _ _ _ hz7]; rfl); have f4 : w7.frozen? ⟨w.heap.size + 1, 4, none⟩ = false := frozen_of_row w7 _ 4 _ _ hz7; have z5 : w7.cell? ⟨w.heap.size + 1, 5, none⟩ = some (.bool false) := (by rw [cell_of_row w7 _ 5 _ _ _ hz7]; rfl); have f5 : w7.frozen? ⟨w.heap.size + 1, 5, none⟩ = false := frozen_of_row w7 _ 5 _ _ hz7; have z6 : w7.cell? ⟨w.heap.size + 1, 6, none⟩ = some (.bool false) := (by rw [cell_of_row w7 _ 6 _ _ _ hz7]; rfl); have f6 : w7.frozen? ⟨w.heap.size + 1, 6, none⟩ = false := frozen_of_row w7 _ 6 _ _ hz7; have z7 : w7.cell? ⟨w.heap.size + 1, 7, none⟩ = some (.int .i64 0) := (by rw [cell_of_row w7 _ 7 _ _ _ hz7]; rfl); have f7 : w7.frozen? ⟨w.heap.size + 1, 7, none⟩ = false := frozen_of_row w7 _ 7 _ _ hz7; have z8 : w7.cell? ⟨w.heap.size + 1, 8, none⟩ = some (.int .i64 0) := (by rw [cell_of_row w7 _ 8 _ _ _ hz7]; rfl); have f8 : w7.frozen? ⟨w.heap.size + 1, 8, none⟩ = false := frozen_of_row w7 _ 8 _ _ hz7; have z9 : w7.cell? ⟨w.heap.size + 1, 9, none⟩ = some (.int .i64 0) := (by rw [cell_of_row w7 _ 9 _ _ _ hz7]; rfl); have f9 : w7.frozen? ⟨w.heap.size + 1, 9, none⟩ = false := frozen_of_row w7 _ 9 _ _ hz7; have y0 : w7.cell? ⟨w5.heap.size, 0, none⟩ = some (.int .u8 2) := (by rw [cell_of_row w7 _ 0 _ _ _ hg7]; rfl); have y1 : w7.cell? ⟨w5.heap.size, 1, none⟩ = some (.int .u8 (1 + (q : Int))) := (by rw [cell_of_row w7 _ 1 _ _ _ hg7]; rfl); have y2 : w7.cell? ⟨w5.heap.size, 2, none⟩ = some (.int .i64 0) := (by rw [cell_of_row w7 _ 2 _ _ _ hg7]; rfl); have y3 : w7.cell? ⟨w5.heap.size, 3, none⟩ = some (.slice none 0 0) := (by rw [cell_of_row w7 _ 3 _ _ _ hg7]; rfl); have y4 : w7.cell? ⟨w5.heap.size, 4, none⟩ = some (.slice none 0 0) := (by rw [cell_of_row w7 _ 4 _ _ _ hg7]; rfl); have y5 : w7.cell? ⟨w5.heap.size, 5, none⟩ = some (.bool false) := (by rw [cell_of_row w7 _ 5 _ _ _ hg7]; rfl); have y6 : w7.cell? ⟨w5.heap.size, 6, none⟩ = some (.bool false) := (by rw [cell_of_row w7 _ 6 _ _ _ hg7]; rfl); have y7 : w7.cell? ⟨w5.heap.size, 7, none⟩ = some (.int .i64 0) := (by rw [cell_of_row w7 _ 7 _ _ _ hg7]; rfl); have y8 : w7.cell? ⟨w5.heap.size, 8, none⟩ = some (.int .i64 0) := (by rw [cell_of_row w7 _ 8 _ _ _ hg7]; rfl); have y9 : w7.cell? ⟨w5.heap.size, 9, none⟩ = some (.int .i64 0) := (by rw [cell_of_row w7 _ 9 _ _ _ hg7]; rfl); have HZ7 := hid hz7; have HB7 := hid hb7; have HK7 := hid hk7; have HS7 := hid hs7; clear hg7 hk7 hs7 hz7 hb7))
  obtain ⟨g8, k8, s8, b8⟩ := set10 HZ7.out (.int .u8 2) (.int .u8 (1 + (q : Int))) (.int .i64 0) (.slice none 0 0) (.slice none 0 0) (.bool false) (.bool false) (.int .i64 0) (.int .i64 0) (.int .i64 0)
  have hb8 := b8 HB7.out (by omega)
  generalize ((((((((((w7).setCell ⟨w.heap.size + 1, 0, none⟩ (.int .u8 2)).setCell ⟨w.heap.size + 1, 1, none⟩ (.int .u8 (1 + (q : Int)))).setCell ⟨w.heap.size + 1, 2, none⟩ (.int .i64 0)).setCell ⟨w.heap.size + 1, 3, none⟩ (.slice none 0 0)).setCell ⟨w.heap.size + 1, 4, none⟩ (.slice none 0 0)).setCell ⟨w.heap.size + 1, 5, none⟩ (.bool false)).setCell ⟨w.heap.size + 1, 6, none⟩ (.bool false)).setCell ⟨w.heap.size + 1, 7, none⟩ (.int .i64 0)).setCell ⟨w.heap.size + 1, 8, none⟩ (.int .i64 0)).setCell ⟨w.heap.size + 1, 9, none⟩ (.int .i64 0) = w8 at *
  have q0 : w8.cell? ⟨w.heap.size + 1, 0, none⟩ = some (.int .u8 2) := (by rw [cell_of_row w8 _ 0 _ _ _ g8]; rfl)
  have q1 : w8.cell? ⟨w.heap.size + 1, 1, none⟩ = some (.int .u8 (1 + (q : Int))) := (by rw [cell_of_row w8 _ 1 _ _ _ g8]; rfl)
  have q2 : w8.cell? ⟨w.heap.size + 1, 2, none⟩ = some (.int .i64 0) := (by rw [cell_of_row w8 _ 2 _ _ _ g8]; rfl)
  have q3 : w8.cell? ⟨w.heap.size + 1, 3, none⟩ = some (.slice none 0 0) := (by rw [cell_of_row w8 _ 3 _ _ _ g8]; rfl)
  have q4 : w8.cell? ⟨w.heap.size + 1, 4, none⟩ = some (.slice none 0 0) := (by rw [cell_of_row w8 _ 4 _ _ _ g8]; rfl)
  have q5 : w8.cell? ⟨w.heap.size + 1, 5, none⟩ = some (.bool false) := (by rw [cell_of_row w8 _ 5 _ _ _ g8]; rfl)
  have q6 : w8.cell? ⟨w.heap.size + 1, 6, none⟩ = some (.bool false) := (by rw [cell_of_row w8 _ 6 _ _ _ g8]; rfl)
  have q7 : w8.cell? ⟨w.heap.size + 1, 7, none⟩ = some (.int .i64 0) := (by rw [cell_of_row w8 _ 7 _ _ _ g8]; rfl)
  have q8 : w8.cell? ⟨w.heap.size + 1, 8, none⟩ = some (.int .i64 0) := (by rw [cell_of_row w8 _ 8 _ _ _ g8]; rfl)
  have q9 : w8.cell? ⟨w.heap.size + 1, 9, none⟩ = some (.int .i64 0) := (by rw [cell_of_row w8 _ 9 _ _ _ g8]; rfl)
  refine bodyPost_ret (v := .agg #[.int .u8 2, .int .u8 (1 + (q : Int)), .int .i64 0, .slice none 0 0, .slice none 0 0, .bool false, .bool false, .int .i64 0, .int .i64 0, .int .i64 0]) (by simp [results, Tryd.results14, go_sem, q0, q1, q2, q3, q4, q5, q6, q7, q8, q9]) rfl ?_
  exact ⟨hb8, none, 0, none, 0, rfl, NLL.nil, NLL.nil⟩

set_option maxRecDepth 100000 in
set_option maxHeartbeats 4000000 in
theorem made_k3 (k r : Nat) (lv : Int) (A B : List (List Nat)) (imp pol : Bool) (ln co er : Int) (pA pB : Option Addr) (cA cB : Nat) (m c : Nat) (R : Nat → Prop) (w : World) (hk : k % 4 = 3) (hk255 : k ≤ 255) (hr255 : r ≤ 255) (hm : 1 ≤ m ∧ m ≤ 1000) (hc : c ≤ 1000) (hlv : -9223372036854775808 ≤ lv ∧ lv ≤ 9223372036854775807) (her : -9223372036854775808 ≤ er ∧ er ≤ 9223372036854775807) (hA : NLL R w (.slice pA A.length cA) A) (hB : NLL R w (.slice pB B.length cB) B) (hR : ∀ i, R i → i < w.heap.size) (hlA : ∀ x ∈ A, x.length ≤ 17592186044415) (hlB : ∀ x ∈ B, x.length ≤ 17592186044415) :
    Calls Tryd.prog 14 #[.agg #[.int .u8 (k : Int), .int .u8 (r : Int), .int .i64 lv, .slice pA A.length cA, .slice pB B.length cB, .bool imp, .bool pol, .int .i64 ln, .int .i64 co, .int .i64 er], .int .i64 (m : Int), .int .i64 (c : Int)] w (MadePost ⟨k, r, lv, A, B, imp, pol, ln, co, er⟩ m c w) := by
  obtain ⟨W0, hW0⟩ : ∃ W, (w.alloc (.cells #[.int .u8 (k : Int), .int .u8 (r : Int), .int .i64 lv, .slice pA A.length cA, .slice pB B.length cB, .bool imp, .bool pol, .int .i64 ln, .int .i64 co, .int .i64 er] 35)).alloc (.cells #[.int .u8 0, .int .u8 0, .int .i64 0, .slice none 0 0, .slice none 0 0, .bool false, .bool false, .int .i64 0, .int .i64 0, .int .i64 0] 35) = W := ⟨_, rfl⟩
  have hb0 : Below w.heap.size w W0 := by rw [← hW0]; exact ((Below.refl _ _).alloc (Nat.le_refl _) _).alloc (by rw [World.size_alloc]; omega) _
  have hz0 : W0.heap.size = w.heap.size + 2 := by rw [← hW0, World.size_alloc, World.size_alloc]
  have hc0 : W0.heap[w.heap.size]? = some (.cells #[.int .u8 (k : Int), .int .u8 (r : Int), .int .i64 lv, .slice pA A.length cA, .slice pB B.length cB, .bool imp, .bool pol, .int .i64 ln, .int .i64 co, .int .i64 er] 35 (0, 0)) := by rw [← hW0, heap_al, if_neg (by rw [World.size_alloc]; omega), heap_al, if_pos rfl]
  have hc1 : W0.heap[w.heap.size + 1]? = some (.cells #[.int .u8 0, .int .u8 0, .int .i64 0, .slice none 0 0, .slice none 0 0, .bool false, .bool false, .int .i64 0, .int .i64 0, .int .i64 0] 35 (0, 0)) := by rw [← hW0, heap_al, if_pos (by rw [World.size_alloc])]
  have HFEW := hid (few_any k r lv A B imp pol ln co er pA pB cA cB R W0 (hA.keep fun i hi => ⟨hi, hb0.block i (hR i hi)⟩) (hB.keep fun i hi => ⟨hi, hb0.block i (hR i hi)⟩) (fun i hi => by have := hR i hi; omega) hlA hlB)
  have HB0 := hid hb0; have HZ := hid hz0; have HC0 := hid hc0; have HZ0 := hid hc1; have HWW := hid hW0
  obtain ⟨q, hq⟩ : ∃ q : Nat, er % 10 = (q : Int) := ⟨(er % 10).toNat, by omega⟩
  have hq9 : q ≤ 9 := by omega
  have hkq : (k : Int) % 4 = 3 := by omega
  have HKM := hid (fun W => show Calls Tryd.prog 13 #[.int .i64 er, .int .i64 10] W fun e w' => e = .returned (.int .i64 (q : Int)) ∧ W = w' from by rw [← hq]; exact kmod_any er 10 W her (by omega))
  have HMV := hid (show madeV ⟨k, r, lv, A, B, imp, pol, ln, co, er⟩ m c = ⟨3, 0, 0, [], [], false, pol, ln, co, 1 + (q : Int)⟩ from by unfold madeV; rw [if_neg (by dsimp only; omega), if_pos hk]; dsimp only; rw [hq])
  clear hk hq
  clear hA hB hR hlA hlB hb0 hz0 hc0 hc1 hW0
  unfold FewPost at HFEW
  unfold MadePost
  rw [HMV.out]
  generalize cutL A = LA at *
  generalize cutL B = LB at *
  go_enter Tryd.func14, Tryd.ntmps14
  go_wp2_with fail
  rw [HWW.out]
  refine HFEW.out.mono ?_
  rintro e w2 ⟨hb2, p1, c1, p2, c2, rfl, hn1, hn2⟩
  have hC2 := (hb2.block w.heap.size (by rw [HZ.out]; omega)).trans HC0.out
  have hZ2 := (hb2.block (w.heap.size + 1) (by rw [HZ.out]; omega)).trans HZ0.out
  have x0 : w2.cell? ⟨w.heap.size, 0, none⟩ = some (.int .u8 (k : Int)) := (by rw [cell_of_row w2 _ 0 _ _ _ hC2]; rfl)
  have f0 : w2.frozen? ⟨w.heap.size, 0, none⟩ = false := frozen_of_row w2 _ 0 _ _ hC2
  have x1 : w2.cell? ⟨w.heap.size, 1, none⟩ = some (.int .u8 (r : Int)) := (by rw [cell_of_row w2 _ 1 _ _ _ hC2]; rfl)
  have f1 : w2.frozen? ⟨w.heap.size, 1, none⟩ = false := frozen_of_row w2 _ 1 _ _ hC2
  have x2 : w2.cell? ⟨w.heap.size, 2, none⟩ = some (.int .i64 lv) := (by rw [cell_of_row w2 _ 2 _ _ _ hC2]; rfl)
  have f2 : w2.frozen? ⟨w.heap.size, 2, none⟩ = false := frozen_of_row w2 _ 2 _ _ hC2
  have x3 : w2.cell? ⟨w.heap.size, 3, none⟩ = some (.slice pA A.length cA) := (by rw [cell_of_row w2 _ 3 _ _ _ hC2]; rfl)
  have f3 : w2.frozen? ⟨w.heap.size, 3, none⟩ = false := frozen_of_row w2 _ 3 _ _ hC2
  have x4 : w2.cell? ⟨w.heap.size, 4, none⟩ = some (.slice pB B.length cB) := (by rw [cell_of_row w2 _ 4 _ _ _ hC2]; rfl)
  have f4 : w2.frozen? ⟨w.heap.size, 4, none⟩ = false := frozen_of_row w2 _ 4 _ _ hC2
  have x5 : w2.cell? ⟨w.heap.size, 5, none⟩ = some (.bool imp) := (by rw [cell_of_row w2 _ 5 _ _ _ hC2]; rfl)
  have f5 : w2.frozen? ⟨w.heap.size, 5, none⟩ = false := frozen_of_row w2 _ 5 _ _ hC2
  have x6 : w2.cell? ⟨w.heap.size, 6, none⟩ = some (.bool pol) := (by rw [cell_of_row w2 _ 6 _ _ _ hC2]; rfl)
  have f6 : w2.frozen? ⟨w.heap.size, 6, none⟩ = false := frozen_of_row w2 _ 6 _ _ hC2
  have x7 : w2.cell? ⟨w.heap.size, 7, none⟩ = some (.int .i64 ln) := (by rw [cell_of_row w2 _ 7 _ _ _ hC2]; rfl)
  have f7 : w2.frozen? ⟨w.heap.size, 7, none⟩ = false := frozen_of_row w2 _ 7 _ _ hC2
  have x8 : w2.cell? ⟨w.heap.size, 8, none⟩ = some (.int .i64 co) := (by rw [cell_of_row w2 _ 8 _ _ _ hC2]; rfl)
  have f8 : w2.frozen? ⟨w.heap.size, 8, none⟩ = false := frozen_of_row w2 _ 8 _ _ hC2
  have x9 : w2.cell? ⟨w.heap.size, 9, none⟩ = some (.int .i64 er) := (by rw [cell_of_row w2 _ 9 _ _ _ hC2]; rfl)
  have f9 : w2.frozen? ⟨w.heap.size, 9, none⟩ = false := frozen_of_row w2 _ 9 _ _ hC2
  have HC2 := hid hC2; have HZ2 := hid hZ2
  have HB2 := hid (HB0.out.trans (hb2.mono HB0.out.size)); have HN1 := hid hn1; have HN2 := hid hn2; have HBF := hid hb2
  clear hC2 hZ2 hb2 hn1 hn2
  go_wp2_with (first | (obtain ⟨w5, hw5⟩ : ∃ W, ((((((((((w2).setCell ⟨w.heap.size, 0, none⟩ (.int .u8 (k : Int))).setCell ⟨w.heap.size, 1, none⟩ (.int .u8 (r : Int))).setCell ⟨w.heap.size, 2, none⟩ (.int .i64 lv)).setCell ⟨w.heap.size, 3, none⟩ (.slice p1 LA.length c1)).setCell ⟨w.heap.size, 4, none⟩ (.slice p2 LB.length c2)).setCell ⟨w.heap.size, 5, none⟩ (.bool imp)).setCell ⟨w.heap.size, 6, none⟩ (.bool pol)).setCell ⟨w.heap.size, 7, none⟩ (.int .i64 ln)).setCell ⟨w.heap.size, 8, none⟩ (.int .i64 co)).setCell ⟨w.heap.size, 9, none⟩ (.int .i64 er) = W := ⟨_, rfl⟩; rw [hw5]; obtain ⟨hg5, hk5, hs5, hb5⟩ := set10 HC2.out (.int .u8 (k : Int)) (.int .u8 (r : Int)) (.int .i64 lv) (.slice p1 LA.length c1) (.slice p2 LB.length c2) (.bool imp) (.bool pol) (.int .i64 ln) (.int .i64 co) (.int .i64 er); have hb5 := hb5 HB2.out (Nat.le_refl _); rw [hw5] at hg5 hk5 hs5 hb5; clear x0 f0 x1 f1 x2 f2 x3 f3 x4 f4 x5 f5 x6 f6 x7 f7 x8 f8 x9 f9 hw5; have x0 : w5.cell? ⟨w.heap.size, 0, none⟩ = some (.int .u8 (k : Int)) := (by rw [cell_of_row w5 _ 0 _ _ _ hg5]; rfl); have x1 : w5.cell? ⟨w.heap.size, 1, none⟩ = some (.int .u8 (r : Int)) := (by rw [cell_of_row w5 _ 1 _ _ _ hg5]; rfl); have x2 : w5.cell? ⟨w.heap.size, 2, none⟩ = some (.int .i64 lv) := (by rw [cell_of_row w5 _ 2 _ _ _ hg5]; rfl); have x3 : w5.cell? ⟨w.heap.size, 3, none⟩ = some (.slice p1 LA.length c1) := (by rw [cell_of_row w5 _ 3 _ _ _ hg5]; rfl); have x4 : w5.cell? ⟨w.heap.size, 4, none⟩ = some (.slice p2 LB.length c2) := (by rw [cell_of_row w5 _ 4 _ _ _ hg5]; rfl); have x5 : w5.cell? ⟨w.heap.size, 5, none⟩ = some (.bool imp) := (by rw [cell_of_row w5 _ 5 _ _ _ hg5]; rfl); have x6 : w5.cell? ⟨w.heap.size, 6, none⟩ = some (.bool pol) := (by rw [cell_of_row w5 _ 6 _ _ _ hg5]; rfl); have x7 : w5.cell? ⟨w.heap.size, 7, none⟩ = some (.int .i64 ln) := (by rw [cell_of_row w5 _ 7 _ _ _ hg5]; rfl); have x8 : w5.cell? ⟨w.heap.size, 8, none⟩ = some (.int .i64 co) := (by rw [cell_of_row w5 _ 8 _ _ _ hg5]; rfl); have x9 : w5.cell? ⟨w.heap.size, 9, none⟩ = some (.int .i64 er) := (by rw [cell_of_row w5 _ 9 _ _ _ hg5]; rfl); have hz5 := (hk5 (w.heap.size + 1) (by omega)).trans HZ2.out; have z0 : w5.cell? ⟨w.heap.size + 1, 0, none⟩ = some (.int .u8 0) := (by rw [cell_of_row w5 _ 0 _ _ _ hz5]; rfl); have f0 : w5.frozen? ⟨w.heap.size + 1, 0, none⟩ = false := frozen_of_row w5 _ 0 _ _ hz5; have z1 : w5.cell? ⟨w.heap.size + 1, 1, none⟩ = some (.int .u8 0) := (by rw [cell_of_row w5 _ 1 _ _ _ hz5]; rfl); have f1 : w5.frozen? ⟨w.heap.size + 1, 1, none⟩ = false := frozen_of_row w5 _ 1 _ _ hz5; have z2 : w5.cell? ⟨w.heap.size + 1, 2, none⟩ = some (.int .i64 0) := (by rw [cell_of_row w5 _ 2 _ _ _ hz5]; rfl); have f2 : w5.frozen? ⟨w.heap.size + 1, 2, none⟩ = false := frozen_of_row w5 _ 2 _ _ hz5; have z3 : w5.cell? ⟨w.heap.size + 1, 3, none⟩ = some (.slice none 0 0) := (by rw [cell_of_row w5 _ 3 _ _ _ hz5]; rfl); have f3 : w5.frozen? ⟨w.heap.size + 1, 3, none⟩ = false := frozen_of_row w5 _ 3 _ _ hz5; have z4 : w5.cell? ⟨w.heap.size + 1, 4, none⟩ = some (.slice none 0 0) := (by rw [cell_of_row w5 _ 4 _ _ _ hz5]; rfl); have f4 : w5.frozen? ⟨w.heap.size + 1, 4, none⟩ = false := frozen_of_row w5 _ 4 _ _ hz5; have z5 : w5.cell? ⟨w.heap.size + 1, 5, none⟩ = some (.bool false) := (by rw [cell_of_row w5 _ 5 _ _ _ hz5]; rfl); have f5 : w5.frozen? ⟨w.heap.size + 1, 5, none⟩ = false := frozen_of_row w5 _ 5 _ _ hz5; have z6 : w5.cell? ⟨w.heap.size + 1, 6, none⟩ = some (.bool false) := (by rw [cell_of_row w5 _ 6 _ _ _ hz5]; rfl); have f6 : w5.frozen? ⟨w.heap.size + 1, 6, none⟩ = false := frozen_of_row w5 _ 6 _ _ hz5; have z7 : w5.cell? ⟨w.heap.size + 1, 7, none⟩ = some (.int .i64 0) := (by rw [cell_of_row w5 _ 7 _ _ _ hz5]; rfl); have f7 : w5.frozen? ⟨w.heap.size + 1, 7, none⟩ = false := frozen_of_row w5 _ 7 _ _ hz5; have z8 : w5.cell? ⟨w.heap.size + 1, 8, none⟩ = some (.int .i64 0) := (by rw [cell_of_row w5 _ 8 _ _ _ hz5]; rfl); have f8 : w5.frozen? ⟨w.heap.size + 1, 8, none⟩ = false := frozen_of_row w5 _ 8 _ _ hz5; have z9 : w5.cell? ⟨w.heap.size + 1, 9, none⟩ = some (.int .i64 0) := (by rw [cell_of_row w5 _ 9 _ _ _ hz5]; rfl); have f9 : w5.frozen? ⟨w.heap.size + 1, 9, none⟩ = false := frozen_of_row w5 _ 9 _ _ hz5; have HG5 := hid hg5; have HK5 := hid hk5; have HS5 := hid hs5; have HB5 := hid hb5; have HZ5 := hid hz5; clear hg5 hk5 hs5 hb5 hz5) | (obtain ⟨w6, hw6⟩ : ∃ W, w5.alloc (.cells #[.int .u8 3, .int .u8 0, .int .i64 0, .slice none 0 0, .slice none 0 0, .bool false, .bool false, .int .i64 0, .int .i64 0, .int .i64 0] 35) = W := ⟨_, rfl⟩; rw [hw6]; have hg6 : w6.heap[w5.heap.size]? = some (.cells #[.int .u8 3, .int .u8 0, .int .i64 0, .slice none 0 0, .slice none 0 0, .bool false, .bool false, .int .i64 0, .int .i64 0, .int .i64 0] 35 (0, 0)) := (by rw [← hw6, heap_al, if_pos rfl]); have hb6 : Below w5.heap.size w5 w6 := (by rw [← hw6]; exact (Below.refl _ _).alloc (Nat.le_refl _) _); have hs6 : w6.heap.size = w5.heap.size + 1 := (by rw [← hw6, World.size_alloc]); have h50 : w.heap.size < w5.heap.size := (by have := HBF.out.size; have := HS5.out; have := HZ.out; omega); have h51 : w.heap.size + 1 < w5.heap.size := (by have := HBF.out.size; have := HS5.out; have := HZ.out; omega); have hc6 := (hb6.block w.heap.size h50).trans HG5.out; have hz6 := (hb6.block (w.heap.size + 1) h51).trans HZ5.out; clear x0 z0 f0 x1 z1 f1 x2 z2 f2 x3 z3 f3 x4 z4 f4 x5 z5 f5 x6 z6 f6 x7 z7 f7 x8 z8 f8 x9 z9 f9 hw6; have x0 : w6.cell? ⟨w.heap.size, 0, none⟩ = some (.int .u8 (k : Int)) := (by rw [cell_of_row w6 _ 0 _ _ _ hc6]; rfl); have g0 : w6.frozen? ⟨w.heap.size, 0, none⟩ = false := frozen_of_row w6 _ 0 _ _ hc6; have x1 : w6.cell? ⟨w.heap.size, 1, none⟩ = some (.int .u8 (r : Int)) := (by rw [cell_of_row w6 _ 1 _ _ _ hc6]; rfl); have g1 : w6.frozen? ⟨w.heap.size, 1, none⟩ = false := frozen_of_row w6 _ 1 _ _ hc6; have x2 : w6.cell? ⟨w.heap.size, 2, none⟩ = some (.int .i64 lv) := (by rw [cell_of_row w6 _ 2 _ _ _ hc6]; rfl); have g2 : w6.frozen? ⟨w.heap.size, 2, none⟩ = false := frozen_of_row w6 _ 2 _ _ hc6; have x3 : w6.cell? ⟨w.heap.size, 3, none⟩ = some (.slice p1 LA.length c1) := (by rw [cell_of_row w6 _ 3 _ _ _ hc6]; rfl); have g3 : w6.frozen? ⟨w.heap.size, 3, none⟩ = false := frozen_of_row w6 _ 3 _ _ hc6; have x4 : w6.cell? ⟨w.heap.size, 4, none⟩ = some (.slice p2 LB.length c2) := (by rw [cell_of_row w6 _ 4 _ _ _ hc6]; rfl); have g4 : w6.frozen? ⟨w.heap.size, 4, none⟩ = false := frozen_of_row w6 _ 4 _ _ hc6; have x5 : w6.cell? ⟨w.heap.size, 5, none⟩ = some (.bool imp) := (by rw [cell_of_row w6 _ 5 _ _ _ hc6]; rfl); have g5 : w6.frozen? ⟨w.heap.size, 5, none⟩ = false := frozen_of_row w6 _ 5 _ _ hc6; have x6 : w6.cell? ⟨w.heap.size, 6, none⟩ = some (.bool pol) := (by rw [cell_of_row w6 _ 6 _ _ _ hc6]; rfl); have g6 : w6.frozen? ⟨w.heap.size, 6, none⟩ = false := frozen_of_row w6 _ 6 _ _ hc6; have x7 : w6.cell? ⟨w.heap.size, 7, none⟩ = some (.int .i64 ln) := (by rw [cell_of_row w6 _ 7 _ _ _ hc6]; rfl); have g7 : w6.frozen? ⟨w.heap.size, 7, none⟩ = false := frozen_of_row w6 _ 7 _ _ hc6; have x8 : w6.cell? ⟨w.heap.size, 8, none⟩ = some (.int .i64 co) := (by rw [cell_of_row w6 _ 8 _ _ _ hc6]; rfl); have g8 : w6.frozen? ⟨w.heap.size, 8, none⟩ = false := frozen_of_row w6 _ 8 _ _ hc6; have x9 : w6.cell? ⟨w.heap.size, 9, none⟩ = some (.int .i64 er) := (by rw [cell_of_row w6 _ 9 _ _ _ hc6]; rfl); have g9 : w6.frozen? ⟨w.heap.size, 9, none⟩ = false := frozen_of_row w6 _ 9 _ _ hc6; have z0 : w6.cell? ⟨w.heap.size + 1, 0, none⟩ = some (.int .u8 0) := (by rw [cell_of_row w6 _ 0 _ _ _ hz6]; rfl); have f0 : w6.frozen? ⟨w.heap.size + 1, 0, none⟩ = false := frozen_of_row w6 _ 0 _ _ hz6; have z1 : w6.cell? ⟨w.heap.size + 1, 1, none⟩ = some (.int .u8 0) := (by rw [cell_of_row w6 _ 1 _ _ _ hz6]; rfl); have f1 : w6.frozen? ⟨w.heap.size + 1, 1, none⟩ = false := frozen_of_row w6 _ 1 _ _ hz6; have z2 : w6.cell? ⟨w.heap.size + 1, 2, none⟩ = some (.int .i64 0) := (by rw [cell_of_row w6 _ 2 _ _ _ hz6]; rfl); have f2 : w6.frozen? ⟨w.heap.size + 1, 2, none⟩ = false := frozen_of_row w6 _ 2 _ _ hz6; have z3 : w6.cell? ⟨w.heap.size + 1, 3, none⟩ = some (.slice none 0 0) := (by rw [cell_of_row w6 _ 3 _ _ _ hz6]; rfl); have f3 : w6.frozen? ⟨w.heap.size + 1, 3, none⟩ = false := frozen_of_row w6 _ 3 _ _ hz6; have z4 : w6.cell? ⟨w.heap.size + 1, 4, none⟩ = some (.slice none 0 0) := (by rw [cell_of_row w6 _ 4 _ _ _ hz6]; rfl); have f4 : w6.frozen? ⟨w.heap.size + 1, 4, none⟩ = false := frozen_of_row w6 _ 4 _ _ hz6; have z5 : w6.cell? ⟨w.heap.size + 1, 5, none⟩ = some (.bool false) := (by rw [cell_of_row w6 _ 5 _ _ _ hz6]; rfl); have f5 : w6.frozen? ⟨w.heap.size + 1, 5, none⟩ = false := frozen_of_row w6 _ 5 _ _ hz6; have z6 : w6.cell? ⟨w.heap.size + 1, 6, none⟩ = some (.bool false) := (by rw [cell_of_row w6 _ 6 _ _ _ hz6]; rfl); have f6 : w6.frozen? ⟨w.heap.size + 1, 6, none⟩ = false := frozen_of_row w6 _ 6 _ _ hz6; have z7 : w6.cell? ⟨w.heap.size + 1, 7, none⟩ = some (.int .i64 0) := (by rw [cell_of_row w6 _ 7 _ _ _ hz6]; rfl); have f7 : w6.frozen? ⟨w.heap.size + 1, 7, none⟩ = false := frozen_of_row w6 _ 7 _ _ hz6; have z8 : w6.cell? ⟨w.heap.size + 1, 8, none⟩ = some (.int .i64 0) := (by rw [cell_of_row w6 _ 8 _ _ _ hz6]; rfl); have f8 : w6.frozen? ⟨w.heap.size + 1, 8, none⟩ = false := frozen_of_row w6 _ 8 _ _ hz6; have z9 : w6.cell? ⟨w.heap.size + 1, 9, none⟩ = some (.int .i64 0) := (by rw [cell_of_row w6 _ 9 _ _ _ hz6]; rfl); have f9 : w6.frozen? ⟨w.heap.size + 1, 9, none⟩ = false := frozen_of_row w6 _ 9 _ _ hz6; have y0 : w6.cell? ⟨w5.heap.size, 0, none⟩ = some (.int .u8 3) := (by rw [cell_of_row w6 _ 0 _ _ _ hg6]; rfl); have e0 : w6.frozen? ⟨w5.heap.size, 0, none⟩ = false := frozen_of_row w6 _ 0 _ _ hg6; have y1 : w6.cell? ⟨w5.heap.size, 1, none⟩ = some (.int .u8 0) := (by rw [cell_of_row w6 _ 1 _ _ _ hg6]; rfl); have e1 : w6.frozen? ⟨w5.heap.size, 1, none⟩ = false := frozen_of_row w6 _ 1 _ _ hg6; have y2 : w6.cell? ⟨w5.heap.size, 2, none⟩ = some (.int .i64 0) := (by rw [cell_of_row w6 _ 2 _ _ _ hg6]; rfl); have e2 : w6.frozen? ⟨w5.heap.size, 2, none⟩ = false := frozen_of_row w6 _ 2 _ _ hg6; have y3 : w6.cell? ⟨w5.heap.size, 3, none⟩ = some (.slice none 0 0) := (by rw [cell_of_row w6 _ 3 _ _ _ hg6]; rfl); have e3 : w6.frozen? ⟨w5.heap.size, 3, none⟩ = false := frozen_of_row w6 _ 3 _ _ hg6; have y4 : w6.cell? ⟨w5.heap.size, 4, none⟩ = some (.slice none 0 0) := (by rw [cell_of_row w6 _ 4 _ _ _ hg6]; rfl); have e4 : w6.frozen? ⟨w5.heap.size, 4, none⟩ = false := frozen_of_row w6 _ 4 _ _ hg6; have y5 : w6.cell? ⟨w5.heap.size, 5, none⟩ = some (.bool false) := (by rw [cell_of_row w6 _ 5 _ _ _ hg6]; rfl); have e5 : w6.frozen? ⟨w5.heap.size, 5, none⟩ = false := frozen_of_row w6 _ 5 _ _ hg6; have y6 : w6.cell? ⟨w5.heap.size, 6, none⟩ = some (.bool false) := (by rw [cell_of_row w6 _ 6 _ _ _ hg6]; rfl); have e6 : w6.frozen? ⟨w5.heap.size, 6, none⟩ = false := frozen_of_row w6 _ 6 _ _ hg6; have y7 : w6.cell? ⟨w5.heap.size, 7, none⟩ = some (.int .i64 0) := (by rw [cell_of_row w6 _ 7 _ _ _ hg6]; rfl); have e7 : w6.frozen? ⟨w5.heap.size, 7, none⟩ = false := frozen_of_row w6 _ 7 _ _ hg6; have y8 : w6.cell? ⟨w5.heap.size, 8, none⟩ = some (.int .i64 0) := (by rw [cell_of_row w6 _ 8 _ _ _ hg6]; rfl); have e8 : w6.frozen? ⟨w5.heap.size, 8, none⟩ = false := frozen_of_row w6 _ 8 _ _ hg6; have y9 : w6.cell? ⟨w5.heap.size, 9, none⟩ = some (.int .i64 0) := (by rw [cell_of_row w6 _ 9 _ _ _ hg6]; rfl); have e9 : w6.frozen? ⟨w5.heap.size, 9, none⟩ = false := frozen_of_row w6 _ 9 _ _ hg6; have HG6 := hid hg6; have HB6 := hid hb6; have HS6 := hid hs6; have HC6 := hid hc6; have HZ6 := hid hz6; have H50 := hid h50; have H51 := hid h51; clear hg6 hb6 hs6 hc6 hz6 h50 h51))
  have HST : ∀ (W' : World) (i : Nat) (u : Value), (fun W' : World => W'.cell? ⟨w.heap.size, 6, none⟩ = some (.bool pol) ∧ W'.cell? ⟨w.heap.size, 7, none⟩ = some (.int .i64 ln) ∧ W'.cell? ⟨w.heap.size, 8, none⟩ = some (.int .i64 co) ∧ W'.cell? ⟨w.heap.size, 9, none⟩ = some (.int .i64 er)) W' → (fun W' : World => W'.cell? ⟨w.heap.size, 6, none⟩ = some (.bool pol) ∧ W'.cell? ⟨w.heap.size, 7, none⟩ = some (.int .i64 ln) ∧ W'.cell? ⟨w.heap.size, 8, none⟩ = some (.int .i64 co) ∧ W'.cell? ⟨w.heap.size, 9, none⟩ = some (.int .i64 er)) (W'.setCell ⟨w5.heap.size, i, none⟩ u) := fun W' i u h => by
    have hne : ∀ o, (⟨w.heap.size, o, none⟩ : Addr) ≠ ⟨w5.heap.size, i, none⟩ := fun o e => by injection e with e _ _; have := H50.out; omega
    have hk : ∀ o, (W'.setCell ⟨w5.heap.size, i, none⟩ u).cell? ⟨w.heap.size, o, none⟩ = W'.cell? ⟨w.heap.size, o, none⟩ := fun o => World.cell?_of_block (Below.heap_setCell _ _ _ _ (by show w.heap.size ≠ w5.heap.size; have := H50.out; omega))
    exact ⟨(hk 6).trans h.1, (hk 7).trans h.2.1, (hk 8).trans h.2.2.1, (hk 9).trans h.2.2.2⟩
  have hS : (fun W' : World => W'.cell? ⟨w.heap.size, 6, none⟩ = some (.bool pol) ∧ W'.cell? ⟨w.heap.size, 7, none⟩ = some (.int .i64 ln) ∧ W'.cell? ⟨w.heap.size, 8, none⟩ = some (.int .i64 co) ∧ W'.cell? ⟨w.heap.size, 9, none⟩ = some (.int .i64 er)) w6.drew := ⟨x6, x7, x8, x9⟩
  have hFa : ∀ f, Fence.wide.fn f := fun _ => trivial
  refine (wpIn_wide (n := 9)).1 ?_
  refine wpIn_onlyN ?_
  refine wpIn_region_HJ (fun W' : World => W'.cell? ⟨w.heap.size, 6, none⟩ = some (.bool pol) ∧ W'.cell? ⟨w.heap.size, 7, none⟩ = some (.int .i64 ln) ∧ W'.cell? ⟨w.heap.size, 8, none⟩ = some (.int .i64 co) ∧ W'.cell? ⟨w.heap.size, 9, none⟩ = some (.int .i64 er)) 13 (by kernel_rfl) ?_
  simp only [List.size_toArray, List.length_cons, List.length_nil, Nat.reduceAdd]
  refine wpHJ_pure (v := ?vc0) 0 hFa rfl (by kernel_rfl) (fun _ _ _ h => h.elim) (Or.inl ⟨by rfl, ?yc0⟩) (.inr hS) ?rc0
  case yc0 => (intro w' _; go_simp; try rfl)
  simp only [Act.put, List.getElem_toArray, List.getElem_cons_succ, List.getElem_cons_zero, List.setIfInBounds_toArray, List.set_cons_zero, List.set_cons_succ]
  refine wpHJ_take (v := ?vc1) 1 hFa rfl (by kernel_rfl) (fun _ _ _ h => h.elim) (Or.inl ⟨by rfl, ?yc1⟩) hS ?rc1
  case yc1 => (intro w' hS'; obtain ⟨s6, s7, s8, s9⟩ := hS'; go_simp; try rfl)
  simp only [Act.put, List.getElem_toArray, List.getElem_cons_succ, List.getElem_cons_zero, List.setIfInBounds_toArray, List.set_cons_zero, List.set_cons_succ]
  refine wpHJ_pure (v := ?vc2) 2 hFa rfl (by kernel_rfl) (fun _ _ _ h => h.elim) (Or.inl ⟨by rfl, ?yc2⟩) (.inr hS) ?rc2
  case yc2 => (intro w' _; go_simp; try rfl)
  simp only [Act.put, List.getElem_toArray, List.getElem_cons_succ, List.getElem_cons_zero, List.setIfInBounds_toArray, List.set_cons_zero, List.set_cons_succ]
  refine wpHJ_take (v := ?vc3) 3 hFa rfl (by kernel_rfl) (fun _ _ _ h => h.elim) (Or.inl ⟨by rfl, ?yc3⟩) hS ?rc3
  case yc3 => (intro w' hS'; obtain ⟨s6, s7, s8, s9⟩ := hS'; go_simp; try rfl)
  simp only [Act.put, List.getElem_toArray, List.getElem_cons_succ, List.getElem_cons_zero, List.setIfInBounds_toArray, List.set_cons_zero, List.set_cons_succ]
  refine wpHJ_pure (v := ?vc4) 4 hFa rfl (by kernel_rfl) (fun _ _ _ h => h.elim) (Or.inl ⟨by rfl, ?yc4⟩) (.inr hS) ?rc4
  case yc4 => (intro w' _; go_simp; try rfl)
  simp only [Act.put, List.getElem_toArray, List.getElem_cons_succ, List.getElem_cons_zero, List.setIfInBounds_toArray, List.set_cons_zero, List.set_cons_succ]
  refine wpHJ_take (v := ?vc5) 5 hFa rfl (by kernel_rfl) (fun _ _ _ h => h.elim) (Or.inl ⟨by rfl, ?yc5⟩) hS ?rc5
  case yc5 => (intro w' hS'; obtain ⟨s6, s7, s8, s9⟩ := hS'; go_simp; try rfl)
  simp only [Act.put, List.getElem_toArray, List.getElem_cons_succ, List.getElem_cons_zero, List.setIfInBounds_toArray, List.set_cons_zero, List.set_cons_succ]
  refine wpHJ_pure (v := ?vc8) 8 hFa rfl (by kernel_rfl) (fun _ _ _ h => h.elim) (Or.inl ⟨by rfl, ?yc8⟩) (.inr hS) ?rc8
  case yc8 => (intro w' _; go_simp; try rfl)
  simp only [Act.put, List.getElem_toArray, List.getElem_cons_succ, List.getElem_cons_zero, List.setIfInBounds_toArray, List.set_cons_zero, List.set_cons_succ]
  refine wpHJ_only 6 (by kernel_rfl) rfl ?_
  intro K hK
  go_simp
  (with_reducible refine (callsIn_wide.2 (HKM.out _)).mono ?_)
  rintro e w7 ⟨rfl, rfl⟩
  refine hK _ _ (.inr (.inr hS)) ?_
  clear hK K
  refine wpHJ_pure (v := ?vc7) 7 hFa rfl (by kernel_rfl) (fun _ _ _ h => h.elim) (Or.inl ⟨by rfl, ?yc7⟩) (.inr hS) ?rc7
  case yc7 => (intro w' _; go_simp; try rfl)
  simp only [Act.put, List.getElem_toArray, List.getElem_cons_succ, List.getElem_cons_zero, List.setIfInBounds_toArray, List.set_cons_zero, List.set_cons_succ]
  refine wpHJ_only 9 (by kernel_rfl) rfl ?_
  intro K hK
  go_simp
  refine hK _ _ (.inr (.inr (HST _ 6 (.bool pol) hS))) ?_
  clear hK K
  refine wpHJ_pure (v := ?vc10) 10 hFa rfl (by kernel_rfl) (fun _ _ _ h => h.elim) (Or.inl ⟨by rfl, ?yc10⟩) (.inr (HST _ 6 (.bool pol) hS)) ?rc10
  case yc10 => (intro w' _; go_simp; try rfl)
  simp only [Act.put, List.getElem_toArray, List.getElem_cons_succ, List.getElem_cons_zero, List.setIfInBounds_toArray, List.set_cons_zero, List.set_cons_succ]
  refine wpHJ_only 11 (by kernel_rfl) rfl ?_
  intro K hK
  go_simp
  refine hK _ _ (.inr (.inr (HST _ 8 (.int .i64 co) (HST _ 7 (.int .i64 ln) (HST _ 6 (.bool pol) hS))))) ?_
  clear hK K
  refine wpHJ_pure (v := ?vc12) 12 hFa rfl (by kernel_rfl) (fun _ _ _ h => h.elim) (Or.inl ⟨by rfl, ?yc12⟩) (.inr (HST _ 8 (.int .i64 co) (HST _ 7 (.int .i64 ln) (HST _ 6 (.bool pol) hS)))) ?rc12
  case yc12 => (intro w' _; go_simp; try rfl)
  simp only [Act.put, List.getElem_toArray, List.getElem_cons_succ, List.getElem_cons_zero, List.setIfInBounds_toArray, List.set_cons_zero, List.set_cons_succ]
  refine wpHJ_only 13 (by kernel_rfl) rfl ?_
  intro K hK
  go_simp
  refine hK _ _ (.inl rfl) ?_
  clear hK K
  refine wpHJ_done (by kernel_rfl) ?_ _
  simp only [onlyN, Exit.then]
  clear hFa
  rw [show IntKind.i64.wrap (1 + (q : Int)) = 1 + (q : Int) from IntWalk.i64_in _ (by omega)]
  obtain ⟨w7, hw7⟩ : ∃ W, (((((w6.setCell ⟨w5.heap.size, 6, none⟩ (.bool pol)).setCell ⟨w5.heap.size, 7, none⟩ (.int .i64 ln)).setCell ⟨w5.heap.size, 8, none⟩ (.int .i64 co)).setCell ⟨w5.heap.size, 9, none⟩ (.int .i64 (1 + (q : Int)))).drew) = W := ⟨_, rfl⟩
  rw [hw7]
  have hg7 : w7.heap[w5.heap.size]? = some (.cells #[.int .u8 3, .int .u8 0, .int .i64 0, .slice none 0 0, .slice none 0 0, .bool false, .bool pol, .int .i64 ln, .int .i64 co, .int .i64 (1 + (q : Int))] 35 (0, 0)) := (by rw [← hw7]; exact heap_set_cell (heap_set_cell (heap_set_cell (heap_set_cell HG6.out _) _) _) _)
  have hk7 : ∀ j, j ≠ w5.heap.size → w7.heap[j]? = w6.heap[j]? := (by intro j hj; rw [← hw7]; exact (Below.heap_setCell _ _ _ _ hj).trans ((Below.heap_setCell _ _ _ _ hj).trans ((Below.heap_setCell _ _ _ _ hj).trans (Below.heap_setCell _ _ _ _ hj))))
  have hs7 : w7.heap.size = w6.heap.size := (by rw [← hw7]; simp only [World.size_drew, World.size_setCell])
  have hz7 := (hk7 (w.heap.size + 1) (by have := H51.out; omega)).trans HZ6.out
  have hb7 : Below w.heap.size w w7 := (by rw [← hw7]; exact ((((((HB5.out.trans (HB6.out.mono (by have := H50.out; omega)))).setCell (by have := H50.out; exact Nat.le_of_lt this) _).setCell (by have := H50.out; exact Nat.le_of_lt this) _).setCell (by have := H50.out; exact Nat.le_of_lt this) _).setCell (by have := H50.out; exact Nat.le_of_lt this) _).drew)
  clear x0 g0 z0 f0 y0 e0 x1 g1 z1 f1 y1 e1 x2 g2 z2 f2 y2 e2 x3 g3 z3 f3 y3 e3 x4 g4 z4 f4 y4 e4 x5 g5 z5 f5 y5 e5 x6 g6 z6 f6 y6 e6 x7 g7 z7 f7 y7 e7 x8 g8 z8 f8 y8 e8 x9 g9 z9 f9 y9 e9 hw7
  have z0 : w7.cell? ⟨w.heap.size + 1, 0, none⟩ = some (.int .u8 0) := (by rw [cell_of_row w7 _ 0 _ _ _ hz7]; rfl)
  have f0 : w7.frozen? ⟨w.heap.size + 1, 0, none⟩ = false := frozen_of_row w7 _ 0 _ _ hz7
  have z1 : w7.cell? ⟨w.heap.size + 1, 1, none⟩ = some (.int .u8 0) := (by rw [cell_of_row w7 _ 1 _ _ _ hz7]; rfl)
  have f1 : w7.frozen? ⟨w.heap.size + 1, 1, none⟩ = false := frozen_of_row w7 _ 1 _ _ hz7
  have z2 : w7.cell? ⟨w.heap.size + 1, 2, none⟩ = some (.int .i64 0) := (by rw [cell_of_row w7 _ 2 _ _ _ hz7]; rfl)
  have f2 : w7.frozen? ⟨w.heap.size + 1, 2, none⟩ = false := frozen_of_row w7 _ 2 _ _ hz7
  have z3 : w7.cell? ⟨w.heap.size + 1, 3, none⟩ = some (.slice none 0 0) := (by rw [cell_of_row w7 _ 3 _ _ _ hz7]; rfl)
  have f3 : w7.frozen? ⟨w.heap.size + 1, 3, none⟩ = false := frozen_of_row w7 _ 3 _ _ hz7
  have z4 : w7.cell? ⟨w.heap.size + 1, 4, none⟩ = some (.slice none 0 0) := (by rw [cell_of_row w7 _ 4 _ _ _ hz7]; rfl)
  have f4 : w7.frozen? ⟨w.heap.size + 1, 4, none⟩ = false := frozen_of_row w7 _ 4 _ _ hz7
  have z5 : w7.cell? ⟨w.heap.size + 1, 5, none⟩ = some (.bool false) := (by rw [cell_of_row w7 _ 5 _ _ _ hz7]; rfl)
  have f5 : w7.frozen? ⟨w.heap.size + 1, 5, none⟩ = false := frozen_of_row w7 _ 5 _ _ hz7
  have z6 : w7.cell? ⟨w.heap.size + 1, 6, none⟩ = some (.bool false) := (by rw [cell_of_row w7 _ 6 _ _ _ hz7]; rfl)
  have f6 : w7.frozen? ⟨w.heap.size + 1, 6, none⟩ = false := frozen_of_row w7 _ 6 _ _ hz7
  have z7 : w7.cell? ⟨w.heap.size + 1, 7, none⟩ = some (.int .i64 0) := (by rw [cell_of_row w7 _ 7 _ _ _ hz7]; rfl)
  have f7 : w7.frozen? ⟨w.heap.size + 1, 7, none⟩ = false := frozen_of_row w7 _ 7 _ _ hz7
  have z8 : w7.cell? ⟨w.heap.size + 1, 8, none⟩ = some (.int .i64 0) := (by rw [cell_of_row w7 _ 8 _ _ _ hz7]; rfl)
  have f8 : w7.frozen? ⟨w.heap.size + 1, 8, none⟩ = false := frozen_of_row w7 _ 8 _ _ hz7
  have z9 : w7.cell? ⟨w.heap.size + 1, 9, none⟩ = some (.int .i64 0) := (by rw [cell_of_row w7 _ 9 _ _ _ hz7]; rfl)
  have f9 : w7.frozen? ⟨w.heap.size + 1, 9, none⟩ = false := frozen_of_row w7 _ 9 _ _ hz7

  have y0 : w7.cell? ⟨w5.heap.size, 0, none⟩ = some (.int .u8 3) := (by rw [cell_of_row w7 _ 0 _ _ _ hg7]; rfl)
  have y1 : w7.cell? ⟨w5.heap.size, 1, none⟩ = some (.int .u8 0) := (by rw [cell_of_row w7 _ 1 _ _ _ hg7]; rfl)
  have y2 : w7.cell? ⟨w5.heap.size, 2, none⟩ = some (.int .i64 0) := (by rw [cell_of_row w7 _ 2 _ _ _ hg7]; rfl)
  have y3 : w7.cell? ⟨w5.heap.size, 3, none⟩ = some (.slice none 0 0) := (by rw [cell_of_row w7 _ 3 _ _ _ hg7]; rfl)
  have y4 : w7.cell? ⟨w5.heap.size, 4, none⟩ = some (.slice none 0 0) := (by rw [cell_of_row w7 _ 4 _ _ _ hg7]; rfl)
  have y5 : w7.cell? ⟨w5.heap.size, 5, none⟩ = some (.bool false) := (by rw [cell_of_row w7 _ 5 _ _ _ hg7]; rfl)
  have y6 : w7.cell? ⟨w5.heap.size, 6, none⟩ = some (.bool pol) := (by rw [cell_of_row w7 _ 6 _ _ _ hg7]; rfl)
  have y7 : w7.cell? ⟨w5.heap.size, 7, none⟩ = some (.int .i64 ln) := (by rw [cell_of_row w7 _ 7 _ _ _ hg7]; rfl)
  have y8 : w7.cell? ⟨w5.heap.size, 8, none⟩ = some (.int .i64 co) := (by rw [cell_of_row w7 _ 8 _ _ _ hg7]; rfl)
  have y9 : w7.cell? ⟨w5.heap.size, 9, none⟩ = some (.int .i64 (1 + (q : Int))) := (by rw [cell_of_row w7 _ 9 _ _ _ hg7]; rfl)

  have HZ7 := hid hz7
  have HB7 := hid hb7
  have HK7 := hid hk7
  have HS7 := hid hs7
  clear hg7 hk7 hs7 hz7 hb7
  clear HST hS
  go_wp2_with fail
  obtain ⟨g8, k8, s8, b8⟩ := set10 HZ7.out (.int .u8 3) (.int .u8 0) (.int .i64 0) (.slice none 0 0) (.slice none 0 0) (.bool false) (.bool pol) (.int .i64 ln) (.int .i64 co) (.int .i64 (1 + (q : Int)))
  have hb8 := b8 HB7.out (by omega)
  generalize ((((((((((w7).setCell ⟨w.heap.size + 1, 0, none⟩ (.int .u8 3)).setCell ⟨w.heap.size + 1, 1, none⟩ (.int .u8 0)).setCell ⟨w.heap.size + 1, 2, none⟩ (.int .i64 0)).setCell ⟨w.heap.size + 1, 3, none⟩ (.slice none 0 0)).setCell ⟨w.heap.size + 1, 4, none⟩ (.slice none 0 0)).setCell ⟨w.heap.size + 1, 5, none⟩ (.bool false)).setCell ⟨w.heap.size + 1, 6, none⟩ (.bool pol)).setCell ⟨w.heap.size + 1, 7, none⟩ (.int .i64 ln)).setCell ⟨w.heap.size + 1, 8, none⟩ (.int .i64 co)).setCell ⟨w.heap.size + 1, 9, none⟩ (.int .i64 (1 + (q : Int))) = w8 at *
  have q0 : w8.cell? ⟨w.heap.size + 1, 0, none⟩ = some (.int .u8 3) := (by rw [cell_of_row w8 _ 0 _ _ _ g8]; rfl)
  have q1 : w8.cell? ⟨w.heap.size + 1, 1, none⟩ = some (.int .u8 0) := (by rw [cell_of_row w8 _ 1 _ _ _ g8]; rfl)
  have q2 : w8.cell? ⟨w.heap.size + 1, 2, none⟩ = some (.int .i64 0) := (by rw [cell_of_row w8 _ 2 _ _ _ g8]; rfl)
  have q3 : w8.cell? ⟨w.heap.size + 1, 3, none⟩ = some (.slice none 0 0) := (by rw [cell_of_row w8 _ 3 _ _ _ g8]; rfl)
  have q4 : w8.cell? ⟨w.heap.size + 1, 4, none⟩ = some (.slice none 0 0) := (by rw [cell_of_row w8 _ 4 _ _ _ g8]; rfl)
  have q5 : w8.cell? ⟨w.heap.size + 1, 5, none⟩ = some (.bool false) := (by rw [cell_of_row w8 _ 5 _ _ _ g8]; rfl)
  have q6 : w8.cell? ⟨w.heap.size + 1, 6, none⟩ = some (.bool pol) := (by rw [cell_of_row w8 _ 6 _ _ _ g8]; rfl)
  have q7 : w8.cell? ⟨w.heap.size + 1, 7, none⟩ = some (.int .i64 ln) := (by rw [cell_of_row w8 _ 7 _ _ _ g8]; rfl)
  have q8 : w8.cell? ⟨w.heap.size + 1, 8, none⟩ = some (.int .i64 co) := (by rw [cell_of_row w8 _ 8 _ _ _ g8]; rfl)
  have q9 : w8.cell? ⟨w.heap.size + 1, 9, none⟩ = some (.int .i64 (1 + (q : Int))) := (by rw [cell_of_row w8 _ 9 _ _ _ g8]; rfl)
  refine bodyPost_ret (v := .agg #[.int .u8 3, .int .u8 0, .int .i64 0, .slice none 0 0, .slice none 0 0, .bool false, .bool pol, .int .i64 ln, .int .i64 co, .int .i64 (1 + (q : Int))]) (by simp [results, Tryd.results14, go_sem, q0, q1, q2, q3, q4, q5, q6, q7, q8, q9]) rfl ?_
  exact ⟨hb8, none, 0, none, 0, rfl, NLL.nil, NLL.nil⟩

end Go.Proofs.YtehjfmbnebeioaaDoor
