/-
  DimacsNames: the walk.
-/
import Derived.Test.YtfllhhgnflpagaaDoorDmVw
import Derived.Test.YtfllhhgnflpagaaDoorDmNp
namespace Go.Proofs.YtfllhhgnflpagaaDoor
set_option linter.unusedSimpArgs false
set_option linter.unusedVariables false
open Go.RowKit Go.Shelf
attribute [local go_sem] Oper.semAt_some
theorem nm_text (w : World) (i : Nat) (hi : i < 18) : (w.alloc (.cells #[.string ⟨#[]⟩, .string ⟨#[99]⟩, .string ⟨#[112, 32, 99, 110, 102, 32, 50]⟩, .string ⟨#[112, 32, 99, 110, 102, 32, 50, 32, 45, 49]⟩, .string ⟨#[112, 32, 99, 110, 102, 32, 49, 48, 52, 56, 53, 55, 55, 32, 48]⟩, .string ⟨#[112, 32, 99, 110, 102, 32, 48, 32, 49, 48, 52, 56, 53, 55, 55]⟩, .string ⟨#[112, 32, 99, 110, 102, 32, 50, 32, 49, 10, 49, 32, 51, 32, 48]⟩, .string ⟨#[112, 32, 99, 110, 102, 32, 50, 32, 49, 10, 49, 32, 120, 32, 48]⟩, .string ⟨#[112, 32, 99, 110, 102, 32, 50, 32, 49, 10, 49, 32, 48, 50, 32, 48]⟩, .string ⟨#[112, 32, 99, 110, 102, 32, 50, 32, 49, 10, 49, 32, 48, 10, 50, 32, 48]⟩, .string ⟨#[112, 32, 99, 110, 102, 32, 50, 32, 49, 10, 49, 32, 50]⟩, .string ⟨#[112, 32, 99, 110, 102, 32, 50, 32, 49, 10, 49, 32, 50, 10]⟩, .string ⟨#[112, 32, 99, 110, 102, 32, 50, 32, 49, 10, 49, 32, 45, 48]⟩, .string ⟨#[112, 32, 99, 110, 102, 32, 50, 32, 49, 10, 43, 49, 32, 48]⟩, .string ⟨#[10, 112, 32, 99, 110, 102, 32, 50, 32, 48, 10, 48]⟩, .string ⟨#[112, 32, 99, 110, 102, 32, 50, 32, 49, 10, 45, 57, 57, 57, 57, 57, 57, 57, 57, 57, 57, 57, 57, 57, 57, 57, 57, 57, 57, 57, 57, 57, 57, 57, 32, 48]⟩, .string ⟨#[112, 32, 99, 110, 102, 32, 50, 32, 57, 57, 57, 57, 57, 57, 57, 57, 57, 57, 57, 57, 57, 57, 57, 57, 57, 57, 57, 57, 57, 57, 57]⟩, .string ⟨#[112, 32, 99, 110, 102, 32, 57, 57, 57, 57, 57, 57, 57, 57, 57, 57, 57, 57, 57, 57, 57, 57, 57, 57, 57, 57, 57, 57, 57, 32, 120]⟩] 9)).cell? ⟨w.heap.size, i, none⟩ = some (.string ⟨(nmT.getD i []).toArray⟩) := by
  rw [cell_al, if_pos rfl]
  match i, hi with
  | 0, _ => rfl
  | 1, _ => rfl
  | 2, _ => rfl
  | 3, _ => rfl
  | 4, _ => rfl
  | 5, _ => rfl
  | 6, _ => rfl
  | 7, _ => rfl
  | 8, _ => rfl
  | 9, _ => rfl
  | 10, _ => rfl
  | 11, _ => rfl
  | 12, _ => rfl
  | 13, _ => rfl
  | 14, _ => rfl
  | 15, _ => rfl
  | 16, _ => rfl
  | 17, _ => rfl
  | k + 18, h => omega
theorem nm_line (w : World) (i : Nat) (hi : i < 18) : (w.alloc (.cells #[.int .i64 1, .int .i64 2, .int .i64 1, .int .i64 1, .int .i64 1, .int .i64 1, .int .i64 2, .int .i64 2, .int .i64 2, .int .i64 3, .int .i64 3, .int .i64 3, .int .i64 2, .int .i64 2, .int .i64 3, .int .i64 2, .int .i64 1, .int .i64 1] 3)).cell? ⟨w.heap.size, i, none⟩ = some (.int .i64 (nmL.getD i 0)) := by
  rw [cell_al, if_pos rfl]
  match i, hi with
  | 0, _ => rfl
  | 1, _ => rfl
  | 2, _ => rfl
  | 3, _ => rfl
  | 4, _ => rfl
  | 5, _ => rfl
  | 6, _ => rfl
  | 7, _ => rfl
  | 8, _ => rfl
  | 9, _ => rfl
  | 10, _ => rfl
  | 11, _ => rfl
  | 12, _ => rfl
  | 13, _ => rfl
  | 14, _ => rfl
  | 15, _ => rfl
  | 16, _ => rfl
  | 17, _ => rfl
  | k + 18, h => omega
theorem nm_errs (w : World) (i : Nat) (hi : i < 18) : (w.alloc (.cells #[.int .i64 4, .int .i64 4, .int .i64 4, .int .i64 4, .int .i64 3, .int .i64 5, .int .i64 3, .int .i64 4, .int .i64 4, .int .i64 4, .int .i64 4, .int .i64 4, .int .i64 4, .int .i64 4, .int .i64 4, .int .i64 3, .int .i64 5, .int .i64 4] 27)).cell? ⟨w.heap.size, i, none⟩ = some (.int .i64 (nmE.getD i 0)) := by
  rw [cell_al, if_pos rfl]
  match i, hi with
  | 0, _ => rfl
  | 1, _ => rfl
  | 2, _ => rfl
  | 3, _ => rfl
  | 4, _ => rfl
  | 5, _ => rfl
  | 6, _ => rfl
  | 7, _ => rfl
  | 8, _ => rfl
  | 9, _ => rfl
  | 10, _ => rfl
  | 11, _ => rfl
  | 12, _ => rfl
  | 13, _ => rfl
  | 14, _ => rfl
  | 15, _ => rfl
  | 16, _ => rfl
  | 17, _ => rfl
  | k + 18, h => omega
/-- The formula of the first example, as it is laid. -/
theorem lit12 (W : World) : LL (· < ((W.alloc (.cells #[.int .i64 1, .int .i64 2] 3)).alloc (.cells #[.slice (some ⟨W.heap.size, 0, none⟩) 2 2] 34)).heap.size) ((W.alloc (.cells #[.int .i64 1, .int .i64 2] 3)).alloc (.cells #[.slice (some ⟨W.heap.size, 0, none⟩) 2 2] 34)) (.slice (some ⟨W.heap.size + 1, 0, none⟩) 1 1) [[1, 2]] := by
  obtain ⟨X, hX⟩ : ∃ X, (W.alloc (.cells #[.int .i64 1, .int .i64 2] 3)).alloc (.cells #[.slice (some ⟨W.heap.size, 0, none⟩) 2 2] 34) = X := ⟨_, rfl⟩
  have hs : X.heap.size = W.heap.size + 2 := by rw [← hX]; simp
  have h0 : X.heap[W.heap.size]? = some (.cells #[.int .i64 1, .int .i64 2] 3 (0, 0)) := by rw [← hX, heap_al, if_neg (by simp), heap_al, if_pos rfl]
  have h1 : X.heap[W.heap.size + 1]? = some (.cells #[.slice (some ⟨W.heap.size, 0, none⟩) 2 2] 34 (0, 0)) := by rw [← hX, heap_al, if_pos (by simp)]
  obtain ⟨d0, d1, _⟩ := cell_lit2 h0
  obtain ⟨e0, _⟩ := cell_lit1 h1
  rw [hX]
  refine ⟨[.slice (some ⟨W.heap.size, 0, none⟩) 2 2], ⟨_, 1, rfl, Nat.le_refl _, by unfold maxLen; omega, by simp, .inr ⟨_, 0, rfl, (by show _ < X.heap.size; omega), ?_⟩⟩, rfl, ?_⟩
  · intro j hj
    match j, hj with
    | 0, _ => exact e0
  · intro i hi hi'
    match i, hi with
    | 0, _ =>
      refine ⟨some ⟨W.heap.size, 0, none⟩, 2, rfl, Nat.le_refl _, by unfold maxLen; omega, (show (2 : Nat) ≤ 140737488355328 by omega), .inr ⟨_, 0, rfl, (by show _ < X.heap.size; omega), ?_⟩⟩
      intro j hj
      match j, hj with
      | 0, _ => exact d0
      | 1, _ => exact d1
/-- A box, as a block. -/
def Bk (b : Nat) (n : Int) (v : Value) (W : World) : Prop := W.heap[b]? = some (.cells #[.int .i64 n, v] 24 (0, 0))
theorem Bk.new (W : World) (n : Int) (v : Value) : Bk W.heap.size n v (W.alloc (.cells #[.int .i64 n, v] 24)) := by unfold Bk; rw [heap_al, if_pos rfl]
theorem Bk.lt {b : Nat} {n : Int} {v : Value} {W : World} (h : Bk b n v W) : b < W.heap.size := (Array.getElem?_eq_some_iff.1 h).1
theorem Bk.bel {b : Nat} {n : Int} {v : Value} {W W' : World} (h : Bk b n v W) (hb : Below W.heap.size W W') : Bk b n v W' := (hb.block b h.lt).trans h
theorem Bk.c0 {b : Nat} {n : Int} {v : Value} {W : World} (h : Bk b n v W) : W.cell? ⟨b, 0, none⟩ = some (.int .i64 n) := (cell_lit2 h).1
theorem Bk.c1 {b : Nat} {n : Int} {v : Value} {W : World} (h : Bk b n v W) : W.cell? ⟨b, 1, none⟩ = some v := (cell_lit2 h).2.1
theorem Bk.f0 {b : Nat} {n : Int} {v : Value} {W : World} (h : Bk b n v W) : W.frozen? ⟨b, 0, none⟩ = false := (cell_lit2 h).2.2.1
theorem Bk.f1 {b : Nat} {n : Int} {v : Value} {W : World} (h : Bk b n v W) : W.frozen? ⟨b, 1, none⟩ = false := (cell_lit2 h).2.2.2
theorem Bk.over {b : Nat} {n : Int} {v : Value} {W : World} (h : Bk b n v W) (n' : Int) (v' : Value) : Bk b n' v' ((W.setCell ⟨b, 0, none⟩ (.int .i64 n')).setCell ⟨b, 1, none⟩ v') := by
  have := heap_set (heap_set h (.int .i64 n') (i := 0)) v' (i := 1)
  exact this
/-- A row that is filled with x up to k. -/
def FillR (t : TypeId) (x : Value) (B N k : Nat) (W : World) : Prop := ∃ cur : Array Value, W.heap[B]? = some (.cells cur t (0, 0)) ∧ cur.size = N ∧ ∀ j, j < k → cur[j]? = some x
theorem FillR.keep {t : TypeId} {x : Value} {B N k : Nat} {W W' : World} (h : FillR t x B N k W) (e : W'.heap[B]? = W.heap[B]?) : FillR t x B N k W' := let ⟨cur, h1, h2, h3⟩ := h; ⟨cur, e.trans h1, h2, h3⟩
theorem FillR.size {t : TypeId} {x : Value} {B N k : Nat} {W : World} (h : FillR t x B N k W) : B < W.heap.size := let ⟨cur, h1, _, _⟩ := h; (Array.getElem?_eq_some_iff.1 h1).1
theorem FillR.bel {t : TypeId} {x : Value} {B N k : Nat} {W W' : World} (h : FillR t x B N k W) (hb : Below W.heap.size W W') : FillR t x B N k W' := h.keep (hb.block B h.size)
theorem FillR.put {t : TypeId} {x : Value} {B N k : Nat} {W : World} (h : FillR t x B N k W) (hk : k < N) : FillR t x B N (k + 1) (W.setCell ⟨B, k, none⟩ x) := by
  obtain ⟨cur, h1, h2, h3⟩ := h
  refine ⟨_, heap_set h1 x, by simpa using h2, fun j hj => ?_⟩
  by_cases e : j = k
  · subst e; simp [h2, hk]
  · rw [Array.getElem?_setIfInBounds_ne (by omega)]; exact h3 j (by omega)
theorem FillR.cell {t : TypeId} {x : Value} {B N k : Nat} {W : World} (h : FillR t x B N k W) (j : Nat) (hj : j < N) : ∃ u, W.cell? ⟨B, j, none⟩ = some u ∧ W.frozen? ⟨B, j, none⟩ = false := by
  obtain ⟨cur, h1, h2, h3⟩ := h
  refine ⟨cur[j], ?_, ?_⟩
  · simp [World.cell?, h1, h2, hj]
  · simp [World.frozen?, h1]
theorem FillR.at {t : TypeId} {x : Value} {B N k : Nat} {W : World} (h : FillR t x B N k W) (j : Nat) (hj : j < k) : W.cell? ⟨B, j, none⟩ = some x := by
  obtain ⟨cur, h1, h2, h3⟩ := h
  simp [World.cell?, h1, h3 j hj]
theorem FillR.conv {B N k n off : Nat} {W : World} (h : FillR 5 (.int .u8 32) B N k W) (hn : off + n ≤ k) (cap : Nat) : (convert 37 9 (.slice (some ⟨B, off, none⟩) n cap)).run Tryd.prog W = .ok (.string ⟨(List.replicate n (32 : UInt8)).toArray⟩) W := by
  have := run_convert_bytes_back (P := Tryd.prog) W 37 9 5 ⟨B, off, none⟩ cap (List.replicate n 32) Tryd.underlying37 Tryd.underlying5 Tryd.underlying9 (by
    intro j hj
    have hj' : j < n := by simpa using hj
    have hadd : (⟨B, off, none⟩ : Addr).add j = ⟨B, off + j, none⟩ := by unfold Addr.add; split <;> simp_all
    rw [hadd, h.at (off + j) (by omega)]
    simp)
  rw [List.length_replicate] at this
  exact this
theorem make_runN {P : Program} {t e : TypeId} {z : Value} {bytes : Nat} (ht : P.underlying t = some (.slice e))
    (hinfo : (P.info? e).map (fun i => (i.zero, i.size, i.bytes)) = some (some z, 1, bytes)) (hzs : z.cells = #[z]) (n : Nat) (hb : bytes * n ≤ 281474976710656) (hn : n ≤ 281474976710656) (w : World) :
    (Instr.makeSlice t (.int .i64 (n : Int)) (.int .i64 (n : Int))).run P w = .ok (.slice (some ⟨w.heap.size, 0, none⟩) n n) (w.alloc (.cells (Array.replicate n z) e)) := by
  obtain ⟨i, hi, hz, hs1, hby⟩ := info_parts hinfo
  have h := run_make (P := P) w t e i z ht hi hz .i64 .i64 (n : Int) (n : Int) (by omega) (Int.le_refl _) (by rw [hby]; omega) (by omega)
  rw [h]
  simp only [Int.toNat_natCast, hs1, Nat.mul_one, hzs]
  have e : madeCells #[z] n = Array.replicate n z := by
    apply Array.ext
    · simp [madeCells]
    · intro i h1 h2
      simp [madeCells, Nat.mod_one]
  rw [e]
theorem prsA (w : World) (hE : Env w) : Calls Tryd.prog 15 #[.string ⟨#[99, 32, 120, 10, 112, 32, 99, 110, 102, 32, 50, 32, 49, 10, 99, 10, 49, 10, 50, 32, 48]⟩] w fun e w' => ∃ cv, e = .returned (.tuple #[.agg #[.int .i64 2, cv], .int .i64 0, .int .i64 0]) ∧ LL (fun k => w.heap.size ≤ k ∧ k < w'.heap.size) w' cv [[1, 2]] ∧ Below w.heap.size w w' := prs_is parse_nmA w hE
theorem prsB (w : World) (hE : Env w) : Calls Tryd.prog 15 #[.string ⟨#[112, 32, 99, 110, 102, 32, 48, 32, 48]⟩] w fun e w' => ∃ cv, e = .returned (.tuple #[.agg #[.int .i64 0, cv], .int .i64 0, .int .i64 0]) ∧ LL (fun k => w.heap.size ≤ k ∧ k < w'.heap.size) w' cv [] ∧ Below w.heap.size w w' := prs_is parse_nmB w hE
/-- A cell that is kept. -/
def Cl (b i : Nat) (v : Value) (W : World) : Prop := b < W.heap.size ∧ W.cell? ⟨b, i, none⟩ = some v
theorem Cl.bel {b i : Nat} {v : Value} {W W' : World} (h : Cl b i v W) (hb : Below W.heap.size W W') : Cl b i v W' := ⟨Nat.lt_of_lt_of_le h.1 hb.size, (hb.cell (p := ⟨b, i, none⟩) h.1).trans h.2⟩
theorem Cl.c {b i : Nat} {v : Value} {W : World} (h : Cl b i v W) : W.cell? ⟨b, i, none⟩ = some v := h.2
/-- What lay lies. -/
def Fro (w0 W : World) : Prop := Below w0.heap.size w0 W
theorem Fro.bel {w0 W W' : World} (h : Fro w0 W) (hb : Below W.heap.size W W') : Fro w0 W' := Below.trans h (hb.mono (Below.size h))
theorem many_step {w W W' : World} {bM C k N : Nat} {n : Int} {cv cv' X x : Value} {e t : TypeId} {o : Obj} (hk : Bk bM n cv W) (hC : C < bM) (hf : FillR t x C N N W) (hb : Below w.heap.size w W) (hw : w.heap.size ≤ bM) (hown : W.ownsRow (bM + 1) e 1 cv k (List.replicate k X))
    (hg : (W.alloc o).grownBy W' cv.ownBlock) (ho : W'.ownsRow (bM + 1) e 1 cv' (k + 1) (List.replicate k X ++ [X])) :
    Bk bM n cv W' ∧ (Bk bM n cv' (W'.setCell ⟨bM, 1, none⟩ cv') ∧ (W'.setCell ⟨bM, 1, none⟩ cv').ownsRow (bM + 1) e 1 cv' (k + 1) (List.replicate (k + 1) X) ∧ FillR t x C N N (W'.setCell ⟨bM, 1, none⟩ cv') ∧ Below w.heap.size w (W'.setCell ⟨bM, 1, none⟩ cv')) := by
  have hlt := hk.lt
  have hkk : ∀ j, j < bM + 1 → W'.heap[j]? = W.heap[j]? := fun j hj => (hg.block j (by rw [World.size_alloc]; omega) (fun e => by have := (hown.lt j e.symm).1; omega)).trans (Below.heap_alloc _ _ _ (by omega))
  have hk' : Bk bM n cv W' := (hkk bM (by omega)).trans hk
  have hsz : W.heap.size ≤ W'.heap.size := by have := hg.size; rw [World.size_alloc] at this; omega
  refine ⟨hk', heap_set hk' cv' (i := 1), owns_keepG (by rw [List.replicate_succ']; exact ho) (fun j hj => heap_oth (by have := (ho.lt j hj).1; omega) _), hf.keep ((heap_oth (by omega) _).trans (hkk C (by omega))), ?_⟩
  have hb1 : Below w.heap.size w W' := (hb.alloc hb.size o).grown hg (by rw [World.size_alloc]; have := hb.size; omega) (fun j e => by have := (hown.lt j e).1; omega)
  exact hb1.setCell (p := ⟨bM, 1, none⟩) hw _
theorem many_ll {W : World} {B C k N : Nat} {cv : Value} (hk : k ≤ 3) (hN : N ≤ 4096) (hown : W.ownsRow B 34 1 cv k (List.replicate k (.slice (some ⟨C, 0, none⟩) N N))) (hf : FillR 3 (.int .i64 524288) C N N W) : LL (· < W.heap.size) W cv (List.replicate k (List.replicate N 524288)) := by
  refine ⟨List.replicate k (.slice (some ⟨C, 0, none⟩) N N), Sl.of_owns hown (by omega) (fun j hj => (hown.lt j hj).2), by simp, fun i hi hi' => ?_⟩
  rw [List.getElem_replicate, List.getElem_replicate]
  refine ⟨some ⟨C, 0, none⟩, N, by simp, by simp, by unfold maxLen; omega, by simp; omega, .inr ⟨C, 0, rfl, hf.size, fun j hj => ?_⟩⟩
  have hj' : j < N := by simpa using hj
  rw [Nat.zero_add, hf.at j hj']
  simp
theorem ll_over {b q : Nat} {W : World} {v u1 u2 : Value} {ls : List (List Int)} (h : LL (fun k => q ≤ k ∧ k < W.heap.size) W v ls) (hb : b < q) : LL (· < ((W.setCell ⟨b, 0, none⟩ u1).setCell ⟨b, 1, none⟩ u2).heap.size) ((W.setCell ⟨b, 0, none⟩ u1).setCell ⟨b, 1, none⟩ u2) v ls :=
  h.keep fun k hk => ⟨by simpa using hk.2, (heap_oth (by omega) _).trans (heap_oth (by omega) _)⟩
set_option maxRecDepth 100000 in
set_option maxHeartbeats 4000000 in
theorem names_walk (w : World) (hE : Env w) : Calls Tryd.prog 5 #[] w fun e w' => e = .returned (.bool true) ∧ Below w.heap.size w w' := by
  have HE := hid hE
  clear hE
  go_enter Tryd.func5, Tryd.ntmps5
  go_wp2_with (first
    | (go_at_call 15; with_reducible refine (prsA w HE.out).mono ?_; rintro e w1_ ⟨vP, rfl, hlP, hb1⟩; obtain ⟨pP, nP, kP, rfl⟩ := hlP.slc; have HBel1 := hid (show Below w.heap.size w w1_ from hb1); (obtain ⟨w1b_, hwP⟩ : ∃ x, w1_.alloc (.cells #[.int .i64 (2), .slice pP nP kP] 24) = x := ⟨_, rfl⟩); have hbxP : Below w1_.heap.size w1_ w1b_ := (by rw [← hwP]; exact (Below.refl _ _).alloc (Nat.le_refl _) _); have HBel2 := hid (show Below w.heap.size w w1b_ from HBel1.out.trans (hbxP.mono HBel1.out.size)); have P_2 := hid (show Bx w1_.heap.size (2) (.slice pP nP kP) w1b_ from (by rw [← hwP]; exact Bx.new _ _ _)); have Pc0_2 := P_2.out.c0; have Pc1_2 := P_2.out.c1; have LP_2 := hid (show LL (· < w1b_.heap.size) w1b_ (.slice pP nP kP) ([[1, 2]]) from hlP.up hbxP); have HWP := hid hwP; clear hwP hlP hbxP; clear hb1; (obtain ⟨wl, hwl⟩ : ∃ x, (w1b_.alloc (.cells #[.int .i64 1, .int .i64 2] 3)).alloc (.cells #[.slice (some ⟨w1b_.heap.size, 0, none⟩) 2 2] 34) = x := ⟨_, rfl⟩); have hbl : Below w1b_.heap.size w1b_ wl := (by rw [← hwl]; exact ((Below.refl _ _).alloc (Nat.le_refl _) _).alloc (by simp) _); have LITL := hid (show LL (· < wl.heap.size) wl (.slice (some ⟨w1b_.heap.size + 1, 0, none⟩) 1 1) [[1, 2]] from (by rw [← hwl]; exact lit12 w1b_)); have HWL := hid hwl; have HBL := hid hbl; have BKa := hid (show Bk w1_.heap.size 2 (.slice pP nP kP) w1b_ from (by rw [← HWP.out]; exact Bk.new _ _ _)); clear hwl hbl)
    | (rw [HWP.out])
    | (rw [HWL.out]; have HBel3 := hid (show Below w.heap.size w wl from HBel2.out.trans (HBL.out.mono HBel2.out.size)); have P_3 := hid (P_2.out.bel HBL.out); have Pc0_3 := P_3.out.c0; have Pc1_3 := P_3.out.c1; clear Pc0_2 Pc1_2; have LP_3 := hid (LP_2.out.bel HBL.out); have BKb := hid (BKa.out.bel HBL.out))
    | (go_at_call 17; with_reducible refine (eqf_is (decide_eq_true ⟨rfl, rfl⟩) LP_3.out LITL.out).mono ?_; rintro e w4_ ⟨rfl, hb4⟩; have HBel4 := hid (show Below w.heap.size w w4_ from HBel3.out.trans (hb4.mono HBel3.out.size)); have P_4 := hid (P_3.out.bel hb4); have Pc0_4 := P_4.out.c0; have Pc1_4 := P_4.out.c1; clear Pc0_3 Pc1_3; have LP_4 := hid (LP_3.out.bel hb4); have BKc := hid (BKb.out.bel hb4); clear hb4)
    | (go_at_call 15; with_reducible refine (prsB w4_ (HE.out.below HBel4.out)).mono ?_; rintro e w90_ ⟨vD, rfl, hlD, hb90⟩; obtain ⟨pD, nD, kD, rfl⟩ := hlD.slc; have BKd := hid (BKc.out.bel hb90); (obtain ⟨w91_, hwC⟩ : ∃ x, (w90_.setCell ⟨w1_.heap.size, 0, none⟩ (.int .i64 0)).setCell ⟨w1_.heap.size, 1, none⟩ (.slice pD nD kD) = x := ⟨_, rfl⟩); have HBC := hid (show Below w.heap.size w w91_ from (by rw [← hwC]; exact ((HBel4.out.trans (hb90.mono HBel4.out.size)).setCell (p := ⟨w1_.heap.size, 0, none⟩) HBel1.out.size _).setCell (p := ⟨w1_.heap.size, 1, none⟩) HBel1.out.size _)); have HLD := hid (show LL (· < w91_.heap.size) w91_ (.slice pD nD kD) [] from (by rw [← hwC]; exact ll_over hlD BKc.out.lt)); have BKe := hid (show Bk w1_.heap.size 0 (.slice pD nD kD) w91_ from (by rw [← hwC]; exact BKd.out.over 0 (.slice pD nD kD))); have d10 := BKd.out.c0; have d11 := BKd.out.c1; have d12 := BKd.out.f0; have d13 := BKd.out.f1; have HWC := hid hwC; clear Pc0_4 Pc1_4 hwC hb90 hlD)
    | (rw [HWC.out]; clear d10 d11 d12 d13; have e10 := BKe.out.c0; have e11 := BKe.out.c1)
    | (go_at_call 17; with_reducible refine (eqf_is (decide_eq_true ⟨rfl, rfl⟩) HLD.out LL.nil').mono ?_; rintro e w5_ ⟨rfl, hb5⟩; have HBel5 := hid (show Below w.heap.size w w5_ from HBC.out.trans (hb5.mono HBC.out.size)); clear e10 e11; clear hb5))
  obtain ⟨wT, hwT⟩ : ∃ x, ((w5_.alloc (.cells #[.string ⟨#[]⟩, .string ⟨#[99]⟩, .string ⟨#[112, 32, 99, 110, 102, 32, 50]⟩, .string ⟨#[112, 32, 99, 110, 102, 32, 50, 32, 45, 49]⟩, .string ⟨#[112, 32, 99, 110, 102, 32, 49, 48, 52, 56, 53, 55, 55, 32, 48]⟩, .string ⟨#[112, 32, 99, 110, 102, 32, 48, 32, 49, 48, 52, 56, 53, 55, 55]⟩, .string ⟨#[112, 32, 99, 110, 102, 32, 50, 32, 49, 10, 49, 32, 51, 32, 48]⟩, .string ⟨#[112, 32, 99, 110, 102, 32, 50, 32, 49, 10, 49, 32, 120, 32, 48]⟩, .string ⟨#[112, 32, 99, 110, 102, 32, 50, 32, 49, 10, 49, 32, 48, 50, 32, 48]⟩, .string ⟨#[112, 32, 99, 110, 102, 32, 50, 32, 49, 10, 49, 32, 48, 10, 50, 32, 48]⟩, .string ⟨#[112, 32, 99, 110, 102, 32, 50, 32, 49, 10, 49, 32, 50]⟩, .string ⟨#[112, 32, 99, 110, 102, 32, 50, 32, 49, 10, 49, 32, 50, 10]⟩, .string ⟨#[112, 32, 99, 110, 102, 32, 50, 32, 49, 10, 49, 32, 45, 48]⟩, .string ⟨#[112, 32, 99, 110, 102, 32, 50, 32, 49, 10, 43, 49, 32, 48]⟩, .string ⟨#[10, 112, 32, 99, 110, 102, 32, 50, 32, 48, 10, 48]⟩, .string ⟨#[112, 32, 99, 110, 102, 32, 50, 32, 49, 10, 45, 57, 57, 57, 57, 57, 57, 57, 57, 57, 57, 57, 57, 57, 57, 57, 57, 57, 57, 57, 57, 57, 57, 57, 32, 48]⟩, .string ⟨#[112, 32, 99, 110, 102, 32, 50, 32, 57, 57, 57, 57, 57, 57, 57, 57, 57, 57, 57, 57, 57, 57, 57, 57, 57, 57, 57, 57, 57, 57, 57]⟩, .string ⟨#[112, 32, 99, 110, 102, 32, 57, 57, 57, 57, 57, 57, 57, 57, 57, 57, 57, 57, 57, 57, 57, 57, 57, 57, 57, 57, 57, 57, 57, 32, 120]⟩] 9)).alloc (.cells #[.int .i64 1, .int .i64 2, .int .i64 1, .int .i64 1, .int .i64 1, .int .i64 1, .int .i64 2, .int .i64 2, .int .i64 2, .int .i64 3, .int .i64 3, .int .i64 3, .int .i64 2, .int .i64 2, .int .i64 3, .int .i64 2, .int .i64 1, .int .i64 1] 3)).alloc (.cells #[.int .i64 4, .int .i64 4, .int .i64 4, .int .i64 4, .int .i64 3, .int .i64 5, .int .i64 3, .int .i64 4, .int .i64 4, .int .i64 4, .int .i64 4, .int .i64 4, .int .i64 4, .int .i64 4, .int .i64 4, .int .i64 3, .int .i64 5, .int .i64 4] 27) = x := ⟨_, rfl⟩
  have hbT : Below w5_.heap.size w5_ wT := by rw [← hwT]; exact (((Below.refl _ _).alloc (Nat.le_refl _) _).alloc (by simp) _).alloc (by simp; omega) _
  have hT1 : ∀ i, i < 18 → wT.cell? ⟨w5_.heap.size, i, none⟩ = some (.string ⟨(nmT.getD i []).toArray⟩) := fun i hi => by
    rw [← hwT, cell_al, if_neg (by simp; omega), cell_al, if_neg (by simp)]; exact nm_text w5_ i hi
  have hT2 : ∀ i, i < 18 → wT.cell? ⟨w5_.heap.size + 1, i, none⟩ = some (.int .i64 (nmL.getD i 0)) := fun i hi => by
    have := nm_line (w5_.alloc (.cells #[.string ⟨#[]⟩, .string ⟨#[99]⟩, .string ⟨#[112, 32, 99, 110, 102, 32, 50]⟩, .string ⟨#[112, 32, 99, 110, 102, 32, 50, 32, 45, 49]⟩, .string ⟨#[112, 32, 99, 110, 102, 32, 49, 48, 52, 56, 53, 55, 55, 32, 48]⟩, .string ⟨#[112, 32, 99, 110, 102, 32, 48, 32, 49, 48, 52, 56, 53, 55, 55]⟩, .string ⟨#[112, 32, 99, 110, 102, 32, 50, 32, 49, 10, 49, 32, 51, 32, 48]⟩, .string ⟨#[112, 32, 99, 110, 102, 32, 50, 32, 49, 10, 49, 32, 120, 32, 48]⟩, .string ⟨#[112, 32, 99, 110, 102, 32, 50, 32, 49, 10, 49, 32, 48, 50, 32, 48]⟩, .string ⟨#[112, 32, 99, 110, 102, 32, 50, 32, 49, 10, 49, 32, 48, 10, 50, 32, 48]⟩, .string ⟨#[112, 32, 99, 110, 102, 32, 50, 32, 49, 10, 49, 32, 50]⟩, .string ⟨#[112, 32, 99, 110, 102, 32, 50, 32, 49, 10, 49, 32, 50, 10]⟩, .string ⟨#[112, 32, 99, 110, 102, 32, 50, 32, 49, 10, 49, 32, 45, 48]⟩, .string ⟨#[112, 32, 99, 110, 102, 32, 50, 32, 49, 10, 43, 49, 32, 48]⟩, .string ⟨#[10, 112, 32, 99, 110, 102, 32, 50, 32, 48, 10, 48]⟩, .string ⟨#[112, 32, 99, 110, 102, 32, 50, 32, 49, 10, 45, 57, 57, 57, 57, 57, 57, 57, 57, 57, 57, 57, 57, 57, 57, 57, 57, 57, 57, 57, 57, 57, 57, 57, 32, 48]⟩, .string ⟨#[112, 32, 99, 110, 102, 32, 50, 32, 57, 57, 57, 57, 57, 57, 57, 57, 57, 57, 57, 57, 57, 57, 57, 57, 57, 57, 57, 57, 57, 57, 57]⟩, .string ⟨#[112, 32, 99, 110, 102, 32, 57, 57, 57, 57, 57, 57, 57, 57, 57, 57, 57, 57, 57, 57, 57, 57, 57, 57, 57, 57, 57, 57, 57, 32, 120]⟩] 9)) i hi
    rw [World.size_alloc] at this
    rw [← hwT, cell_al, if_neg (by simp)]; exact this
  have hT3 : ∀ i, i < 18 → wT.cell? ⟨w5_.heap.size + 1 + 1, i, none⟩ = some (.int .i64 (nmE.getD i 0)) := fun i hi => by
    have := nm_errs ((w5_.alloc (.cells #[.string ⟨#[]⟩, .string ⟨#[99]⟩, .string ⟨#[112, 32, 99, 110, 102, 32, 50]⟩, .string ⟨#[112, 32, 99, 110, 102, 32, 50, 32, 45, 49]⟩, .string ⟨#[112, 32, 99, 110, 102, 32, 49, 48, 52, 56, 53, 55, 55, 32, 48]⟩, .string ⟨#[112, 32, 99, 110, 102, 32, 48, 32, 49, 48, 52, 56, 53, 55, 55]⟩, .string ⟨#[112, 32, 99, 110, 102, 32, 50, 32, 49, 10, 49, 32, 51, 32, 48]⟩, .string ⟨#[112, 32, 99, 110, 102, 32, 50, 32, 49, 10, 49, 32, 120, 32, 48]⟩, .string ⟨#[112, 32, 99, 110, 102, 32, 50, 32, 49, 10, 49, 32, 48, 50, 32, 48]⟩, .string ⟨#[112, 32, 99, 110, 102, 32, 50, 32, 49, 10, 49, 32, 48, 10, 50, 32, 48]⟩, .string ⟨#[112, 32, 99, 110, 102, 32, 50, 32, 49, 10, 49, 32, 50]⟩, .string ⟨#[112, 32, 99, 110, 102, 32, 50, 32, 49, 10, 49, 32, 50, 10]⟩, .string ⟨#[112, 32, 99, 110, 102, 32, 50, 32, 49, 10, 49, 32, 45, 48]⟩, .string ⟨#[112, 32, 99, 110, 102, 32, 50, 32, 49, 10, 43, 49, 32, 48]⟩, .string ⟨#[10, 112, 32, 99, 110, 102, 32, 50, 32, 48, 10, 48]⟩, .string ⟨#[112, 32, 99, 110, 102, 32, 50, 32, 49, 10, 45, 57, 57, 57, 57, 57, 57, 57, 57, 57, 57, 57, 57, 57, 57, 57, 57, 57, 57, 57, 57, 57, 57, 57, 32, 48]⟩, .string ⟨#[112, 32, 99, 110, 102, 32, 50, 32, 57, 57, 57, 57, 57, 57, 57, 57, 57, 57, 57, 57, 57, 57, 57, 57, 57, 57, 57, 57, 57, 57, 57]⟩, .string ⟨#[112, 32, 99, 110, 102, 32, 57, 57, 57, 57, 57, 57, 57, 57, 57, 57, 57, 57, 57, 57, 57, 57, 57, 57, 57, 57, 57, 57, 57, 32, 120]⟩] 9)).alloc (.cells #[.int .i64 1, .int .i64 2, .int .i64 1, .int .i64 1, .int .i64 1, .int .i64 1, .int .i64 2, .int .i64 2, .int .i64 2, .int .i64 3, .int .i64 3, .int .i64 3, .int .i64 2, .int .i64 2, .int .i64 3, .int .i64 2, .int .i64 1, .int .i64 1] 3)) i hi
    rw [World.size_alloc, World.size_alloc] at this
    rw [← hwT]; exact this
  have HT1 := hid hT1; have HT2 := hid hT2; have HT3 := hid hT3; have HWT := hid hwT
  have HSZT := hid (show wT.heap.size = w5_.heap.size + 3 from by rw [← hwT]; simp)
  have HBT := hid (show Below w.heap.size w wT from HBel5.out.trans (hbT.mono HBel5.out.size))
  clear hwT hbT hT1 hT2 hT3
  go_wp2_with (rw [HWT.out])
  go_loopw [7] (fun iv wr => ∃ i : Nat, i ≤ 18 ∧ iv = .int .i64 (i : Int) ∧ Below wT.heap.size wT wr) (fun iv _ => 18 - (intOf iv).toNat)
  case atStart => exact ⟨0, by omega, rfl, Below.refl _ _⟩
  case round =>
    obtain ⟨i, hi, rfl, hbr⟩ := hrel
    obtain ⟨wo, rfl⟩ : ∃ wo : World, wo = wr := ⟨_, rfl⟩
    have HBR := hid (show Below w.heap.size w wo from HBT.out.trans (hbr.mono HBT.out.size))
    have HBRT := hid hbr
    by_cases hlt : i < 18
    · have g1 : decide ((i : Int) < 18) = true := by simp; omega
      have c1 := (hbr.cell (p := ⟨w5_.heap.size, i, none⟩) (by show w5_.heap.size < _; have := HSZT.out; omega)).trans (HT1.out i hlt)
      have c2 := (hbr.cell (p := ⟨w5_.heap.size + 1, i, none⟩) (by show w5_.heap.size + 1 < _; have := HSZT.out; omega)).trans (HT2.out i hlt)
      have c3 := (hbr.cell (p := ⟨w5_.heap.size + 1 + 1, i, none⟩) (by show w5_.heap.size + 1 + 1 < _; have := HSZT.out; omega)).trans (HT3.out i hlt)
      have hpt := parse_nmT i hlt
      obtain ⟨tx, htx⟩ : ∃ x, nmT.getD i [] = x := ⟨_, rfl⟩
      obtain ⟨Ln, hLn⟩ : ∃ x, nmL.getD i 0 = x := ⟨_, rfl⟩
      obtain ⟨Er, hEr⟩ : ∃ x, nmE.getD i 0 = x := ⟨_, rfl⟩
      rw [htx] at hpt c1
      rw [hLn] at hpt c2
      rw [hEr] at hpt c3
      have HPT := hid hpt
      have K2_200 := hid (show Cl (w5_.heap.size + 1) i (.int .i64 Ln) wo from ⟨by have := HSZT.out; have := hbr.size; omega, c2⟩)
      have K3_200 := hid (show Cl (w5_.heap.size + 1 + 1) i (.int .i64 Er) wo from ⟨by have := HSZT.out; have := hbr.size; omega, c3⟩)
      have FT_200 := hid (show Fro wT wo from hbr)
      clear hpt htx hLn hEr hbr c2 c3
      go_wp2_with (first
        | (go_at_call 15; with_reducible refine (prs_is HPT.out wo (HE.out.below HBR.out)).mono ?_; rintro e w201_ ⟨vQ, rfl, hlQ, hb201⟩; obtain ⟨pQ, nQ, kQ, rfl⟩ := hlQ.slc; have HBel201 := hid (show Below w.heap.size w w201_ from HBR.out.trans (hb201.mono HBR.out.size)); have K2_201 := hid (K2_200.out.bel hb201); have K3_201 := hid (K3_200.out.bel hb201); have FT_201 := hid (FT_200.out.bel hb201); (obtain ⟨w201b_, hwQ⟩ : ∃ x, w201_.alloc (.cells #[.int .i64 (0), .slice pQ nQ kQ] 24) = x := ⟨_, rfl⟩); have hbxQ : Below w201_.heap.size w201_ w201b_ := (by rw [← hwQ]; exact (Below.refl _ _).alloc (Nat.le_refl _) _); have HBel202 := hid (show Below w.heap.size w w201b_ from HBel201.out.trans (hbxQ.mono HBel201.out.size)); have K2_202 := hid (K2_201.out.bel hbxQ); have K3_202 := hid (K3_201.out.bel hbxQ); have FT_202 := hid (FT_201.out.bel hbxQ); have Q_202 := hid (show Bx w201_.heap.size (0) (.slice pQ nQ kQ) w201b_ from (by rw [← hwQ]; exact Bx.new _ _ _)); have Qc0_202 := Q_202.out.c0; have Qc1_202 := Q_202.out.c1; have LQ_202 := hid (show LL (· < w201b_.heap.size) w201b_ (.slice pQ nQ kQ) ([]) from hlQ.up hbxQ); have HWQ := hid hwQ; clear hwQ hlQ hbxQ; clear hb201)
        | (rw [HWQ.out])
        | (go_at_call 17; with_reducible refine (eqf_is (decide_eq_true ⟨rfl, rfl⟩) LQ_202.out LL.nil').mono ?_; rintro e w203_ ⟨rfl, hb203⟩; have HBel203 := hid (show Below w.heap.size w w203_ from HBel202.out.trans (hb203.mono HBel202.out.size)); have Q_203 := hid (Q_202.out.bel hb203); have Qc0_203 := Q_203.out.c0; have Qc1_203 := Q_203.out.c1; clear Qc0_202 Qc1_202; have K2_203 := hid (K2_202.out.bel hb203); have K3_203 := hid (K3_202.out.bel hb203); have FT_203 := hid (FT_202.out.bel hb203); have LQ_203 := hid (LQ_202.out.bel hb203); have c2 := K2_203.out.c; have c3 := K3_203.out.c; clear hb203))
      go_roundw
      case rel => exact ⟨i + 1, by omega, by go_num, FT_203.out⟩
      case measure => (simp [intOf] <;> omega)
    · obtain rfl : i = 18 := by omega
      clear hlt
      obtain ⟨N, hN⟩ : ∃ N : Nat, N = 65537 := ⟨_, rfl⟩
      obtain ⟨M, hM⟩ : ∃ M : Nat, M = 65536 := ⟨_, rfl⟩
      have hmk : ∀ w, (Instr.makeSlice 37 (.int .i64 65537) (.int .i64 65537)).run Tryd.prog w = .ok (.slice (some ⟨w.heap.size, 0, none⟩) N N) (w.alloc (.cells (Array.replicate N (.int .u8 0)) 5)) := by
        subst hN; exact make_runN Tryd.underlying37 info_u8 rfl 65537 (by omega) (by omega)
      obtain ⟨l1, hl1⟩ : ∃ l : Bs, List.replicate N 32 = l := ⟨_, rfl⟩
      obtain ⟨l2, hl2⟩ : ∃ l : Bs, List.replicate M 32 = l := ⟨_, rfl⟩
      have HPL := hid (show parseM l1 = ((0, []), 0, 5) from by rw [← hl1]; exact parse_too N (by omega))
      have HPM := hid (show parseM l2 = ((0, []), 2, 4) from by rw [← hl2]; exact parse_blanks M (by omega) (by omega))
      have hcvA : ∀ B W, FillR 5 (.int .u8 32) B N N W → (convert 37 9 (.slice (some ⟨B, 0, none⟩) N N)).run Tryd.prog W = .ok (.string ⟨l1.toArray⟩) W := fun B W h => by rw [← hl1]; exact h.conv (by omega) N
      have hcvB : ∀ B W, FillR 5 (.int .u8 32) B N N W → (convert 37 9 (.slice (some ⟨B, 1, none⟩) M M)).run Tryd.prog W = .ok (.string ⟨l2.toArray⟩) W := fun B W h => by rw [← hl2]; exact h.conv (by omega) M
      have hNM : N = M + 1 := by omega
      have HCA := hid hcvA; have HCB := hid hcvB
      have hNb : N ≤ 65537 := by omega
      have hN1 : 1 ≤ N := by omega
      have hN1a : ¬ N = 1 := by omega
      have hN1b : 1 < N := by omega
      have hN1c : ¬ M = 0 := by omega
      have hN1d : ¬ N = 0 := by omega
      have hx1 : N - 1 = M := by omega
      have hx2 : (N : Int) - 1 = (M : Int) := by omega
      obtain ⟨N2, hN2⟩ : ∃ N : Nat, N = 4096 := ⟨_, rfl⟩
      have hmk2 : ∀ w, (Instr.makeSlice 34 (.int .i64 4096) (.int .i64 4096)).run Tryd.prog w = .ok (.slice (some ⟨w.heap.size, 0, none⟩) N2 N2) (w.alloc (.cells (Array.replicate N2 (.int .i64 0)) 3)) := by
        subst hN2; exact make_runN Tryd.underlying34 info_int rfl 4096 (by omega) (by omega)
      have HMN := hid (show ∀ k, k = 3 → formatM 1048576 (List.replicate k (List.replicate N2 524288)) = ([], 5) from fun k hk => many_long N2 hN2 k hk)
      have hN2b : N2 ≤ 4096 := by omega
      clear hN hM hl1 hl2 hcvA hcvB hNM hN2
      go_wp2_with fail
      clear hmk
      have hf0 : FillR 5 (.int .u8 32) wo.heap.size N 0 (wo.alloc (.cells (Array.replicate N (.int .u8 0)) 5)) := ⟨_, by rw [heap_al, if_pos rfl], by simp, fun j hj => by omega⟩
      have hb0 := HBR.out.alloc HBR.out.size (.cells (Array.replicate N (.int .u8 0)) 5)
      have hBs := HBR.out.size
      generalize wo.alloc _ = w1 at *
      generalize wo.heap.size = B at *
      have HF0 := hid hf0; have HB0 := hid hb0
      clear hf0 hb0
      go_loopw [12] (fun iv W => ∃ k : Nat, k ≤ N ∧ iv = .int .i64 (k : Int) ∧ FillR 5 (.int .u8 32) B N k W ∧ Below w.heap.size w W) (fun iv _ => N - (intOf iv).toNat)
      case atStart => exact ⟨0, by omega, rfl, HF0.out, HB0.out⟩
      case round =>
        obtain ⟨k, hk, rfl, hf, hb⟩ := hrel
        obtain ⟨wx, rfl⟩ : ∃ wx : World, wx = wr := ⟨_, rfl⟩
        have HF := hid hf; have HB := hid hb
        clear hf hb
        by_cases hlt : k < N
        · obtain ⟨u, d1, d2⟩ := HF.out.cell k hlt
          have g2 : decide ((k : Int) < (N : Int)) = true := by simp; omega
          have HF2 := hid (HF.out.put hlt)
          have HB2 := hid (HB.out.setCell (p := ⟨B, k, none⟩) hBs (.int .u8 32))
          go_wp2_with fail
          go_roundw
          case rel => exact ⟨k + 1, by omega, by go_num, HF2.out, HB2.out⟩
          case measure => (simp [intOf] <;> omega)
        · obtain rfl : k = N := by omega
          have g2 : decide ((k : Int) < (k : Int)) = false := by simp
          have hcv1 := HCA.out B wx HF.out
          clear hlt
          go_wp2_with (first
            | (go_at_call 15; with_reducible refine ((prs_is HPL.out wx (HE.out.below HB.out))).mono ?_; rintro e w301_ ⟨vL, rfl, hlL, hb301⟩; obtain ⟨pL, nL, kL, rfl⟩ := hlL.slc; have HBel301 := hid (show Below w.heap.size w w301_ from HB.out.trans (hb301.mono HB.out.size)); clear hlL hcv1; have HF3 := hid (HF.out.bel hb301); have hcv2 := HCB.out B w301_ HF3.out; clear hb301)
            | (go_at_call 15; with_reducible refine ((prs_is HPM.out w301_ (HE.out.below HBel301.out))).mono ?_; rintro e w302_ ⟨vR, rfl, hlR, hb302⟩; obtain ⟨pR, nR, kR, rfl⟩ := hlR.slc; have HBel302 := hid (show Below w.heap.size w w302_ from HBel301.out.trans (hb302.mono HBel301.out.size)); (obtain ⟨w302b_, hwR⟩ : ∃ x, w302_.alloc (.cells #[.int .i64 (0), .slice pR nR kR] 24) = x := ⟨_, rfl⟩); have hbxR : Below w302_.heap.size w302_ w302b_ := (by rw [← hwR]; exact (Below.refl _ _).alloc (Nat.le_refl _) _); have HBel303 := hid (show Below w.heap.size w w302b_ from HBel302.out.trans (hbxR.mono HBel302.out.size)); have R_303 := hid (show Bx w302_.heap.size (0) (.slice pR nR kR) w302b_ from (by rw [← hwR]; exact Bx.new _ _ _)); have Rc0_303 := R_303.out.c0; have Rc1_303 := R_303.out.c1; have LR_303 := hid (show LL (· < w302b_.heap.size) w302b_ (.slice pR nR kR) ([]) from hlR.up hbxR); have HWR := hid hwR; clear hwR hlR hbxR; clear hcv2; clear hb302)
            | (rw [HWR.out]))
          clear hmk2
          have hf1 : FillR 3 (.int .i64 524288) w302b_.heap.size N2 0 (w302b_.alloc (.cells (Array.replicate N2 (.int .i64 0)) 3)) := ⟨_, by rw [heap_al, if_pos rfl], by simp, fun j hj => by omega⟩
          have hb1 := HBel303.out.alloc HBel303.out.size (.cells (Array.replicate N2 (.int .i64 0)) 3)
          have hCs := HBel303.out.size
          generalize w302b_.alloc _ = w4 at *
          generalize w302b_.heap.size = C at *
          have HF1 := hid hf1; have HB1 := hid hb1
          clear hf1 hb1
          go_loopw [17] (fun iv W => ∃ k : Nat, k ≤ N2 ∧ iv = .int .i64 (k : Int) ∧ FillR 3 (.int .i64 524288) C N2 k W ∧ Below w.heap.size w W) (fun iv _ => N2 - (intOf iv).toNat)
          case atStart => exact ⟨0, by omega, rfl, HF1.out, HB1.out⟩
          case round =>
            obtain ⟨q, hq, rfl, hf, hb⟩ := hrel
            obtain ⟨wy, rfl⟩ : ∃ wy : World, wy = wr := ⟨_, rfl⟩
            have HFq := hid hf; have HBq := hid hb
            clear hf hb
            by_cases hlq : q < N2
            · obtain ⟨u, d1, d2⟩ := HFq.out.cell q hlq
              have g3 : decide ((q : Int) < (N2 : Int)) = true := by simp; omega
              have HF2 := hid (HFq.out.put hlq)
              have HB2 := hid (HBq.out.setCell (p := ⟨C, q, none⟩) hCs (.int .i64 524288))
              go_wp2_with fail
              go_roundw
              case rel => exact ⟨q + 1, by omega, by go_num, HF2.out, HB2.out⟩
              case measure => (simp [intOf] <;> omega)
            · obtain rfl : q = N2 := by omega
              have g3 : decide ((q : Int) < (q : Int)) = false := by simp
              clear hlq
              go_wp2_with fail
              have hbm0 : Bk wy.heap.size 1048576 (.slice none 0 0) (wy.alloc (.cells #[.int .i64 1048576, .slice none 0 0] 24)) := Bk.new _ _ _
              have hfm0 : FillR 3 (.int .i64 524288) C q q (wy.alloc (.cells #[.int .i64 1048576, .slice none 0 0] 24)) := HFq.out.bel ((Below.refl _ _).alloc (Nat.le_refl _) _)
              have hbb0 : Below w.heap.size w (wy.alloc (.cells #[.int .i64 1048576, .slice none 0 0] 24)) := HBq.out.alloc HBq.out.size _
              have hCM : C < wy.heap.size := HFq.out.size
              have hwM : w.heap.size ≤ wy.heap.size := HBq.out.size
              generalize wy.alloc _ = w6 at *
              generalize wy.heap.size = bM at *
              have HBM0 := hid hbm0; have HFM0 := hid hfm0; have HBB0 := hid hbb0
              clear hbm0 hfm0 hbb0
              go_loopw [19] (fun iv W => ∃ (k : Nat) (cv : Value), k ≤ 3 ∧ iv = .int .i64 (k : Int) ∧ Bk bM 1048576 cv W ∧ W.ownsRow (bM + 1) 34 1 cv k (List.replicate k (.slice (some ⟨C, 0, none⟩) q q)) ∧ FillR 3 (.int .i64 524288) C q q W ∧ Below w.heap.size w W) (fun iv _ => 3 - (intOf iv).toNat)
              case atStart => exact ⟨0, _, by omega, rfl, HBM0.out, World.ownsRow_nil _ _ _ _, HFM0.out, HBB0.out⟩
              case round =>
                obtain ⟨z, cv, hz, rfl, hbk, hown, hf, hb⟩ := hrel
                obtain ⟨wz, rfl⟩ : ∃ wz : World, wz = wr := ⟨_, rfl⟩
                obtain ⟨pv, kv, rfl⟩ := own_sliceG hown
                have HBK := hid hbk; have HOWN := hid hown; have HFz := hid hf; have HBz := hid hb
                have y0 := hbk.c0; have y1 := hbk.c1; have y2 := hbk.f0; have y3 := hbk.f1
                have hltz := hbk.lt
                clear hbk hown hf hb
                by_cases hlz : z < 3
                · have g4 : decide ((z : Int) < 3) = true := by simp; omega
                  go_wp2_with (at_builtin; refine wpList_appG _ rfl (.tmp 137) (.tmp 139) 22 rfl (bM + 1) 34 (.slice none 0 0) 1 24 Tryd.underlying22 info_ints rfl (by decide) (.slice pv z kv) z (List.replicate z (.slice (some ⟨C, 0, none⟩) q q)) rfl (HOWN.out.alloc _) ⟨wz.heap.size, 0, none⟩ 1 1 [.slice (some ⟨C, 0, none⟩) q q] rfl rfl (RowR.lit (R := fun _ => True) wz [.slice (some ⟨C, 0, none⟩) q q] 34 trivial) (by simp [Value.oneCell']) (by omega) (by unfold maxLen; omega) (by rw [World.size_alloc]; omega) ?_; intro v5 w5 ho5 hg5 hv5; obtain ⟨hs1, hs2⟩ := many_step HBK.out hCM HFz.out HBz.out hwM HOWN.out hg5 ho5; clear y0 y1 y2 y3; have y0 := hs1.c0; have y1 := hs1.c1; have y2 := hs1.f0; have y3 := hs1.f1; obtain ⟨p5, k5, rfl⟩ := own_sliceG ho5; have HS2 := hid hs2; clear ho5 hg5 hv5 hs1 hs2)
                  go_roundw
                  case rel => exact ⟨z + 1, _, by omega, by go_num, HS2.out.1, HS2.out.2.1, HS2.out.2.2.1, HS2.out.2.2.2⟩
                  case measure => (simp [intOf] <;> omega)
                · have hz3 : z = 3 := by omega
                  have g4 : decide ((z : Int) < 3) = false := by simp; omega
                  have HML := hid (HMN.out z hz3)
                  have HLLM := hid (many_ll hz hN2b HOWN.out HFz.out)
                  have HBDM := hid (show LBnd (List.replicate z (List.replicate q 524288)) from fun c hc a ha => by rw [List.eq_of_mem_replicate hc] at ha; rw [List.eq_of_mem_replicate ha]; decide)
                  clear hlz hz3
                  go_wp2_with (first
                    | (go_at_call 13; with_reducible refine (fmt_is HML.out wz HLLM.out HBDM.out (by decide) (HE.out.below HBz.out)).mono ?_; rintro e w401_ ⟨rfl, hb401⟩; have HBel401 := hid (show Below w.heap.size w w401_ from HBz.out.trans (hb401.mono HBz.out.size)); clear hb401)
                    | (go_at_call 12; with_reducible refine (known_any w401_ (HE.out.below HBel401.out)).mono ?_; rintro e w402_ ⟨rfl, hb402⟩; have HBel402 := hid (show Below w.heap.size w w402_ from HBel401.out.trans (hb402.mono HBel401.out.size)); clear hb402))
                  go_ret
                  exact ⟨rfl, HBel402.out⟩

end Go.Proofs.YtfllhhgnflpagaaDoor
