/-
  The walk of package adder's iterator over two words, side by side.
  A range over the iterator of two words: the law for a loop whose rounds all go on.
-/
import Derived.Test.YtjcnhnifageikaaDoorAdd3
import Derived.Test.YtjcnhnifageikaaDoorReg
import Derived.RangeFuncNested
import Derived.RangeFuncBound
import Derived.RangeFuncCalls
import Derived.RangeFuncLeaves
import Derived.RangeFuncWrites
import Derived.Shelf.RegionOpen
import Derived.OwnWalkIn
import Derived.TacticsInMore
import Derived.LoopNIn
import Derived.LoopIn
namespace Go.Proofs.YtjcnhnifageikaaDoor
set_option linter.unusedSimpArgs false
set_option linter.unusedVariables false
open Go.RowKit Go.Shelf
attribute [local go_sem] Oper.semAt_some

/-- What a round must keep for the iterator. -/
def KpS (S : Nat → Prop) (W W' : World) : Prop := ∀ k, S k → W'.heap[k]? = W.heap[k]?
theorem KpS.refl (S : Nat → Prop) (W : World) : KpS S W W := fun _ _ => rfl
theorem KpS.trans {S : Nat → Prop} {A B C : World} (h : KpS S A B) (k : KpS S B C) : KpS S A C := fun i hi => (k i hi).trans (h i hi)

set_option maxRecDepth 100000 in
set_option maxHeartbeats 2000000 in
theorem pairs1_in (F : Fence) (n : Nat) (hFa : ∀ f, F.fn f) (hro : F.round = none) (hn : 1 ≤ n) (l Bx By : Nat) (S : Nat → Prop) (px py : Option Addr) (cx cy : Nat) (xs ys : List Int) (hl : ys.length = xs.length) (hm : xs.length ≤ 140737488355328)
    (J : Nat → World → Prop) (hJd : ∀ k W, J k W → J k W.drew)
    (hY : ∀ k (hk : k < xs.length) (hk' : k < ys.length) W, J k W → YieldAt F (n - 1) Tryd.prog l #[.int .i64 xs[k], .int .i64 ys[k]] W fun e W' =>
      e = .returned (.bool true) ∧ J (k + 1) W' ∧ KpS S W W')
    (W : World) (hSx : S Bx) (hSy : S By) (hBx : W.cell? ⟨Bx, 0, none⟩ = some (.slice px xs.length cx)) (hBy : W.cell? ⟨By, 0, none⟩ = some (.slice py ys.length cy))
    (hrx : RowR S W px (xs.map (Value.int .i64))) (hry : RowR S W py (ys.map (Value.int .i64))) (h0 : J 0 W) :
    CallsIn F n Tryd.prog 51 #[.func (.yield l) #[] #[], .pointer (some ⟨Bx, 0, none⟩), .pointer (some ⟨By, 0, none⟩)] W fun e W' => (∃ v, e = .returned v) ∧ J xs.length W' := by
  refine callsIn_of_wp Tryd.func51 rfl (hFa _) ?_ hro
  simp only [Tryd.ntmps51, List.size_toArray, List.length_cons, List.length_nil, Nat.reduceAdd, Nat.reduceSub, Array.replicate_succ, Array.replicate_zero, List.push_toArray, List.append_toArray, List.nil_append, List.cons_append]
  gi_wp2
  gi_loopw [7] (fun i wr => ∃ k : Nat, k ≤ xs.length ∧ i = .int .i64 k ∧ J k wr ∧ KpS S W wr) (fun i _ => xs.length - (intOf i).toNat)
  case atStart => exact ⟨0, Nat.zero_le _, rfl, h0, KpS.refl _ _⟩
  case round =>
    obtain ⟨k, hk, rfl, hJs, hnx⟩ := hrel
    by_cases hlt : k < xs.length
    · have hcx := (World.cell?_of_block (a := ⟨Bx, 0, none⟩) (hnx Bx hSx)).trans hBx
      have hcy := (World.cell?_of_block (a := ⟨By, 0, none⟩) (hnx By hSy)).trans hBy
      obtain ⟨bx, ox, rfl, hbx, hx⟩ := (hrx.keep (fun j hj => ⟨hj, hnx j hj⟩)).atI k hlt
      obtain ⟨by_, oy, rfl, hby, hy⟩ := (hry.keep (fun j hj => ⟨hj, hnx j hj⟩)).atI k (by omega)
      have h1 := hx k hlt
      have h2 := hy k (by omega)
      have hylt : k < ys.length := by omega
      have hYk := hY k hlt hylt wr.drew (hJd _ _ hJs)
      generalize xs[k] = x at *
      generalize ys[k] = y at *
      clear hx hy hrx hry
      obtain ⟨fn, tmps, assign, body, hy', hR⟩ := hYk
      have HR := hid hR; clear hR
      have hmo : Tryd.prog.follows .mixedOrders = true := by kernel_rfl
      have hS : (fun W' : World => W'.cell? ⟨Bx, 0, none⟩ = some (.slice (some ⟨bx, ox, none⟩) xs.length cx) ∧ W'.cell? ⟨By, 0, none⟩ = some (.slice (some ⟨by_, oy, none⟩) ys.length cy) ∧ W'.cell? ⟨bx, ox + k, none⟩ = some (.int .i64 x) ∧ W'.cell? ⟨by_, oy + k, none⟩ = some (.int .i64 y)) wr.drew := ⟨hcx, hcy, h1, h2⟩
      have hSK : ∀ W', KpS S wr.drew W' → (fun W' : World => W'.cell? ⟨Bx, 0, none⟩ = some (.slice (some ⟨bx, ox, none⟩) xs.length cx) ∧ W'.cell? ⟨By, 0, none⟩ = some (.slice (some ⟨by_, oy, none⟩) ys.length cy) ∧ W'.cell? ⟨bx, ox + k, none⟩ = some (.int .i64 x) ∧ W'.cell? ⟨by_, oy + k, none⟩ = some (.int .i64 y)) W' := fun W' hK =>
        ⟨(World.cell?_of_block (a := ⟨Bx, 0, none⟩) (hK Bx hSx)).trans hcx, (World.cell?_of_block (a := ⟨By, 0, none⟩) (hK By hSy)).trans hcy, (World.cell?_of_block (a := ⟨bx, ox + k, none⟩) (hK bx hbx)).trans h1, (World.cell?_of_block (a := ⟨by_, oy + k, none⟩) (hK by_ hby)).trans h2⟩
      have HSK := hid hSK; clear hSK
      gi_wp2
      refine wpIn_region_HI (fun W' : World => W'.cell? ⟨Bx, 0, none⟩ = some (.slice (some ⟨bx, ox, none⟩) xs.length cx) ∧ W'.cell? ⟨By, 0, none⟩ = some (.slice (some ⟨by_, oy, none⟩) ys.length cy) ∧ W'.cell? ⟨bx, ox + k, none⟩ = some (.int .i64 x) ∧ W'.cell? ⟨by_, oy + k, none⟩ = some (.int .i64 y)) 99 hmo ?_
      simp only [List.size_toArray, List.length_cons, List.length_nil, Nat.reduceAdd]
      refine wpHI_take (v := ?v0) 0 hFa rfl (by kernel_rfl) (fun _ _ _ h => h) (Or.inl ⟨by rfl, ?y0⟩) hS ?r0
      case y0 => (intro w' hS'; obtain ⟨s1, s2, s3, s4⟩ := hS'; go_simp; try rfl)
      simp only [Act.put, List.setIfInBounds_toArray, List.set_cons_zero, List.set_cons_succ]
      refine wpHI_take (v := ?v1) 1 hFa rfl (by kernel_rfl) (fun _ _ _ h => h) (Or.inl ⟨by rfl, ?y1⟩) hS ?r1
      case y1 => (intro w' hS'; obtain ⟨s1, s2, s3, s4⟩ := hS'; go_simp; try rfl)
      simp only [Act.put, List.setIfInBounds_toArray, List.set_cons_zero, List.set_cons_succ]
      refine wpHI_take (v := ?v2) 2 hFa rfl (by kernel_rfl) (fun _ _ _ h => h) (Or.inl ⟨by rfl, ?y2⟩) hS ?r2
      case y2 => (intro w' hS'; obtain ⟨s1, s2, s3, s4⟩ := hS'; go_simp; try rfl)
      simp only [Act.put, List.setIfInBounds_toArray, List.set_cons_zero, List.set_cons_succ]
      refine wpHI_take (v := ?v3) 3 hFa rfl (by kernel_rfl) (fun _ _ _ h => h) (Or.inl ⟨by rfl, ?y3⟩) hS ?r3
      case y3 => (intro w' hS'; obtain ⟨s1, s2, s3, s4⟩ := hS'; go_simp; try rfl)
      simp only [Act.put, List.setIfInBounds_toArray, List.set_cons_zero, List.set_cons_succ]
      refine wpHI_take (v := ?v4) 4 hFa rfl (by kernel_rfl) (fun _ _ _ h => h) (Or.inl ⟨by rfl, ?y4⟩) hS ?r4
      case y4 => (intro w' hS'; obtain ⟨s1, s2, s3, s4⟩ := hS'; go_simp; try rfl)
      simp only [Act.put, List.setIfInBounds_toArray, List.set_cons_zero, List.set_cons_succ]
      refine wpHI_take (v := ?v5) 5 hFa rfl (by kernel_rfl) (fun _ _ _ h => h) (Or.inl ⟨by rfl, ?y5⟩) hS ?r5
      case y5 => (intro w' hS'; obtain ⟨s1, s2, s3, s4⟩ := hS'; go_simp; try rfl)
      simp only [Act.put, List.setIfInBounds_toArray, List.set_cons_zero, List.set_cons_succ]
      refine wpHI_take (v := ?v6) 6 hFa rfl (by kernel_rfl) (fun _ _ _ h => h) (Or.inl ⟨by rfl, ?y6⟩) hS ?r6
      case y6 => (intro w' hS'; obtain ⟨s1, s2, s3, s4⟩ := hS'; go_simp; try rfl)
      simp only [Act.put, List.setIfInBounds_toArray, List.set_cons_zero, List.set_cons_succ]
      refine wpHI_take (v := ?v7) 7 hFa rfl (by kernel_rfl) (fun _ _ _ h => h) (Or.inl ⟨by rfl, ?y7⟩) hS ?r7
      case y7 => (intro w' hS'; obtain ⟨s1, s2, s3, s4⟩ := hS'; go_simp; try rfl)
      simp only [Act.put, List.setIfInBounds_toArray, List.set_cons_zero, List.set_cons_succ]
      refine wpHI_take (v := ?v8) 8 hFa rfl (by kernel_rfl) (fun _ _ _ h => h) (Or.inl ⟨by rfl, ?y8⟩) hS ?r8
      case y8 => (intro w' hS'; obtain ⟨s1, s2, s3, s4⟩ := hS'; go_simp; try rfl)
      simp only [Act.put, List.setIfInBounds_toArray, List.set_cons_zero, List.set_cons_succ]
      refine wpHI_only 9 (by kernel_rfl) rfl ?_
      intro K hK
      go_simp
      refine HR.out.mono ?_
      rintro e W3 ⟨rfl, hJ3, hK3⟩
      refine hK _ _ (.inr (HSK.out W3 hK3)) ?_
      clear hK K
      refine wpHI_only 10 (by kernel_rfl) rfl ?_
      intro K hK
      go_simp
      refine hK _ _ (.inr (HSK.out W3 hK3)) ?_
      clear hK K
      refine wpHI_done (by kernel_rfl) ?_ _
      gi_wp2
      go_roundw
      case rel => exact ⟨k + 1, by omega, by go_num, hJ3, hnx.trans (fun i hi => (hK3 i hi).trans rfl)⟩
      case measure => simp [intOf]; omega
    · obtain rfl : k = xs.length := by omega
      gi_wp2
      go_end0
      exact ⟨⟨_, rfl⟩, hJs⟩

end Go.Proofs.YtjcnhnifageikaaDoor

namespace Go.Proofs.YtjcnhnifageikaaDoor
set_option linter.unusedSimpArgs false
set_option linter.unusedVariables false
open Go.RowKit Go.Shelf
attribute [local go_sem] Oper.semAt_some

/-- 'pairs(x, y)': two boxes, and the iterator over them. -/
theorem pairs_any (px py : Option Addr) (nx ny cx cy : Nat) (w : World) :
    CallsIn Fence.wide 9 Tryd.prog 38 #[.slice px nx cx, .slice py ny cy] w fun e w' =>
      e = .returned (.func (.func 51) #[] #[.pointer (some ⟨w.heap.size, 0, none⟩), .pointer (some ⟨w.heap.size + 1, 0, none⟩)]) ∧
        (w.alloc (.cells #[.slice px nx cx] 23)).alloc (.cells #[.slice py ny cy] 23) = w' := by
  refine callsIn_of_wp Tryd.func38 rfl trivial ?_ rfl
  simp only [Tryd.ntmps38, List.size_toArray, List.length_cons, List.length_nil, Nat.reduceAdd, Nat.reduceSub, Array.replicate_succ, Array.replicate_zero, List.push_toArray, List.append_toArray, List.nil_append, List.cons_append]
  gi_wp2
  go_ret
  exact ⟨rfl, rfl⟩

/-- What a predicate of worlds abides: new blocks, draws, a turn of a block from B on that is no row of cells. -/
def Abides (B : Nat) (I : Nat → World → Prop) : Prop :=
  ∀ s W W' row, I s W → W.grownBy W' row → (∀ r, row = some r → B ≤ r ∧ ∃ o : Obj, W.heap[r]? = some o ∧ o.isCells = false) → I s W'
theorem Abides.alloc {B : Nat} {I : Nat → World → Prop} (h : Abides B I) {s : Nat} {W : World} (o : Obj) (hs : I s W) : I s (W.alloc o) :=
  h s W _ none hs (World.grownBy_alloc W o none) (fun r e => by cases e)
theorem Abides.putObj {B : Nat} {I : Nat → World → Prop} (h : Abides B I) {s : Nat} {W : World} {l : Nat} {o : Obj} (o' : Obj) (hs : I s W) (hB : B ≤ l) (hl : W.heap[l]? = some o) (ho : o.isCells = false) : I s (W.putObj l o') :=
  h s W _ (some l) hs (grownBy_putObj' W l o') (fun r e => by cases e; exact ⟨hB, o, hl, ho⟩)
theorem Abides.drew {B : Nat} {I : Nat → World → Prop} (h : Abides B I) {s : Nat} {W : World} (hs : I s W) : I s W.drew :=
  h s W _ none hs ⟨rfl, rfl, rfl, Nat.le_refl _, fun _ _ _ => rfl⟩ (fun r e => by cases e)

/-- How a round's body ends here: off its end. -/
def BodyPost (B : Nat) (S : Nat → Prop) (J : World → Prop) (W : World) : Exit → Act → World → Prop
  | .normal, _, W' => (W'.heap[B]? = W.heap[B]? ∧ W'.heap[B + 1]? = W.heap[B + 1]?) ∧ KpS S W W' ∧ J W'
  | _, _, _ => False

theorem wp_range_pairs {g : Operand} {ps : Array Tmp} {assign body : Code} {Q : Exit → Act → World → Prop} {a : Act} {w : World}
    (Bx By : Nat) (S : Nat → Prop) (px py : Option Addr) (cx cy : Nat) (xs ys : List Int) (hl : ys.length = xs.length) (hm : xs.length ≤ 140737488355328)
    (hg : a.eval g = .func (.func 51) #[] #[.pointer (some ⟨Bx, 0, none⟩), .pointer (some ⟨By, 0, none⟩)]) (hps : ps.size = 2)
    (hS : ∀ k, S k → k < w.heap.size) (hSx : S Bx) (hSy : S By) (hBx : w.cell? ⟨Bx, 0, none⟩ = some (.slice px xs.length cx)) (hBy : w.cell? ⟨By, 0, none⟩ = some (.slice py ys.length cy))
    (hrx : RowR S w px (xs.map (Value.int .i64))) (hry : RowR S w py (ys.map (Value.int .i64)))
    (I : Nat → World → Prop) (hI : Abides w.heap.size I) (h0 : ∀ o o', o.isCells = false → o'.isCells = false → I 0 ((w.alloc o).alloc o')) (a₁ : Int → Int → Act)
    (hassign : ∀ (l : Nat) (x y : Int) (W : World) (K : Act → World → Prop), K (a₁ x y) W →
      assign.wpIn (Fence.wide.inRound l) 7 Tryd.prog (Exit.then K (fun _ _ _ => False)) { tmps := (ps.zip #[.int .i64 x, .int .i64 y]).foldl (fun t (p, v) => t.setIfInBounds p v) a.tmps, defers := [] } W)
    (hbody : ∀ (l k : Nat) (hk : k < xs.length) (hk' : k < ys.length) (W : World), I k W →
      body.wpIn (Fence.wide.inRound l) 7 Tryd.prog (BodyPost w.heap.size S (I (k + 1)) W) (a₁ xs[k] ys[k]) W)
    (hdone : ∀ (D : Nat) (W : World), w.heap.size ≤ D → I xs.length W → W.heap[D]? = some (.deferred (some [])) → Q .normal { a with defers := { target := .collected D, args := #[] } :: a.defers } W) :
    (Code.rangeFunc g ps assign body).wpIn Fence.wide 9 Tryd.prog Q a w := by
  refine wpIn_rangeFunc ?_
  intro fn _
  show ∃ l mark w₁ d w₁' f args w₂, (Instr.enterLoop fn a.tmps ps assign body none).run Tryd.prog w = _ ∧ _
  obtain ⟨rec, hrec⟩ : ∃ rec : LoopState → Option Code → Loop, rec = fun st pe => { state := st, pending := pe, fn, tmps := a.tmps, params := ps, assign, body, defers := w.heap.size } := ⟨_, rfl⟩
  obtain ⟨W1, hW1⟩ : ∃ W1, (w.alloc (.deferred (some []))).alloc (.loop (rec .ready none)) = W1 := ⟨_, rfl⟩
  have hL1 : W1.heap[w.heap.size + 1]? = some (.loop (rec .ready none)) := by rw [← hW1, heap_al, if_pos (by simp)]
  have hK1 : W1.heap[w.heap.size]? = some (.deferred (some [])) := by rw [← hW1, heap_al, if_neg (by simp), heap_al, if_pos rfl]
  have hI1 : I 0 W1 := by rw [← hW1]; exact h0 _ _ rfl rfl
  have hb1 : Below w.heap.size w W1 := by
    rw [← hW1]; exact ((Below.refl _ w).alloc (Nat.le_refl _) _).alloc (by simp) _
  have eg : ∀ args (w : World), (callFunc 51 args).run Tryd.prog w = .ok (.enter 51 args) w := enters_of Tryd.func51 (by kernel_rfl) rfl
  refine ⟨w.heap.size + 1, [{ target := .collected w.heap.size, args := #[] }], W1, { target := .fn (.func 51) #[.pointer (some ⟨Bx, 0, none⟩), .pointer (some ⟨By, 0, none⟩)], args := #[.func (.yield (w.heap.size + 1)) #[] #[]] }, W1, 51,
    #[.func (.yield (w.heap.size + 1)) #[] #[]] ++ #[.pointer (some ⟨Bx, 0, none⟩), .pointer (some ⟨By, 0, none⟩)], W1, ?_, ?_, ?_, ?_, (fun _ => by omega), ?_⟩
  · rw [← hW1, hrec]; exact run_enterLoop_outer _ _ _ _ _
  · simp only [resolve, hg]
    simp [go_sem]
  · intro f' _; trivial
  · simp [invoke, go_sem, eg]
  · have hSb : ∀ k, S k → S k ∧ W1.heap[k]? = w.heap[k]? := fun k hk => ⟨hk, hb1.block k (hS k hk)⟩
    have hc1 : W1.cell? ⟨Bx, 0, none⟩ = some (.slice px xs.length cx) := (hb1.cell (p := ⟨Bx, 0, none⟩) (hS _ hSx)).trans hBx
    have hc2 : W1.cell? ⟨By, 0, none⟩ = some (.slice py ys.length cy) := (hb1.cell (p := ⟨By, 0, none⟩) (hS _ hSy)).trans hBy
    refine (pairs1_in Fence.wide (9 - 1) (fun _ => trivial) rfl (by omega) (w.heap.size + 1) Bx By S px py cx cy xs ys hl hm
      (fun k W => I k W ∧ W.heap[w.heap.size + 1]? = some (.loop (rec .ready none)) ∧ W.heap[w.heap.size]? = some (.deferred (some [])))
      (fun k W h => ⟨hI.drew h.1, h.2⟩) ?_ W1 hSx hSy hc1 hc2 (hrx.keep hSb) (hry.keep hSb) ⟨hI1, hL1, hK1⟩).mono ?_
    · rintro k hk hk' W ⟨hi, hl, hd⟩
      have hlt : w.heap.size + 1 < W.heap.size := (Array.getElem?_eq_some_iff.1 hl).1
      have hy := run_yield (P := Tryd.prog) (args := #[.int .i64 xs[k], .int .i64 ys[k]]) hl (by rw [hrec]; exact hps.symm)
      rw [hrec] at hy
      refine ⟨fn, _, assign, body, hy, roundIn_of_wpIn trivial (hassign _ xs[k] ys[k] W _ ⟨_, run_beginRound hl (by rw [hrec]), ?_⟩)⟩
      have hl2 : (W.putObj (w.heap.size + 1) (.loop { rec .ready none with state := .busy })).heap[w.heap.size + 1]? = some (.loop { rec .ready none with state := .busy }) := World.putObj_heap_same hlt
      have hd2 : (W.putObj (w.heap.size + 1) (.loop { rec .ready none with state := .busy })).heap[w.heap.size]? = some (.deferred (some [])) := (World.putObj_heap_other (by omega)).trans hd
      refine wpIn_mono (hbody _ k hk hk' _ (hI.putObj _ hi (by omega) hl rfl)) ?_
      rintro e a3 W3 hp
      cases e with
      | normal =>
        obtain ⟨hk3, hkp3, hi3⟩ := hp
        have hl3 := hk3.2.trans hl2
        have hd3 := hk3.1.trans hd2
        have hr := run_endRound (P := Tryd.prog) none hl3
        rw [hrec] at hr
        refine ⟨_, _, hr, rfl, ⟨hI.putObj _ hi3 (by omega) hl3 rfl, ?_, ?_⟩, fun j hj => ?_⟩
        · rw [hrec]; exact World.putObj_heap_same (Array.getElem?_eq_some_iff.1 hl3).1
        · exact (World.putObj_heap_other (by omega)).trans hd3
        · have hj' := hS j hj
          exact (World.putObj_heap_other (by omega)).trans ((hkp3 j hj).trans (World.putObj_heap_other (by omega)))
      | _ => exact hp.elim
    · rintro e W2 ⟨⟨v, rfl⟩, hi, hl, hd⟩
      exact ⟨none, _, by have := run_endLoop (P := Tryd.prog) hl (by rw [hrec]; simp); rw [hrec] at this; exact this,
        hdone _ _ (Nat.le_refl _) (hI.putObj _ hi (by omega) hl rfl) ((World.putObj_heap_other (by omega)).trans hd)⟩

end Go.Proofs.YtjcnhnifageikaaDoor
