/-
  The walks of package adder: Or (of gate), and the maker's methods.
  The walks of package adder: word, one, opposite, pairs, check.
-/
import Derived.Test.YtjcnhnifageikaaDoorGate5
import Derived.BigQuiet
import Derived.Deep.QuietTactic
namespace Go.Proofs.YtjcnhnifageikaaDoor
set_option linter.unusedSimpArgs false
set_option linter.unusedVariables false
open Go.RowKit

/-- A literal's range. -/
def Bd (x : Int) : Prop := -1048576 ≤ x ∧ x ≤ 1048576
theorem Bd.neg {x : Int} (h : Bd x) : Bd (-x) := by unfold Bd at *; omega
theorem Bd.lit {n : Nat} {x : Int} (hn : n ≤ 1048576) (h : okLit n x = true) : Bd x := by have := okLit_bd h; unfold Bd; omega
theorem Bd.zero : Bd 0 := by unfold Bd; omega

theorem writeM_bd (F : Form) (k : Nat) (args : List Int) (hF : F.vars ≤ 1048576) : Bd (writeM F k args).1 := by
  unfold writeM Bd; split <;> simp; omega
theorem andM_bd (F : Form) (x y : Int) (hF : F.vars ≤ 1048576) (hx : Bd x) (hy : Bd y) : Bd (andM F x y).1 := by
  have := writeM_bd F 0 [x, y] hF
  unfold andM
  repeat' split
  all_goals first | assumption | (unfold Bd at *; simp)
theorem orM_bd (F : Form) (x y : Int) (hF : F.vars ≤ 1048576) (hx : Bd x) (hy : Bd y) : Bd (orM F x y).1 := (andM_bd F _ _ hF hx.neg hy.neg).neg
theorem xorM_bd (F : Form) (x y : Int) (hF : F.vars ≤ 1048576) (hx : Bd x) (hy : Bd y) : Bd (xorM F x y).1 := by
  have := writeM_bd F 1 [x, y] hF
  have h1 := hx.neg
  have h2 := hy.neg
  unfold xorM
  repeat' split
  all_goals first | assumption | (unfold Bd at *; simp)
theorem muxM_bd (F : Form) (c x y : Int) (hF : F.vars ≤ 1048576) (hx : Bd x) (hy : Bd y) : Bd (muxM F c x y).1 := by
  have := writeM_bd F 2 [c, x, y] hF
  unfold muxM
  repeat' split
  all_goals first | assumption | (unfold Bd at *; simp)

/-! ### the maker -/
/-- The maker's state: the formula, the error so far. -/
abbrev MS := Form × Int
def mkM (g : Form → Out) (s : MS) : Int × MS := if s.2 ≠ 0 then (0, s) else let r := g s.1; (r.1, (r.2.2, r.2.1))

/-- At block mb there lies a maker over the builder at bb. -/
structure IsM (w : World) (mb bb : Nat) (s : MS) : Prop where
  blk : w.heap[mb]? = some (.cells #[.pointer (some ⟨bb, 0, none⟩), .int .i64 s.2] 87 (0, 0))
  away : Away bb w mb
  b : IsB w bb s.1
/-- Block k is there, neither the builder's nor the maker's. -/
def AwayM (mb bb : Nat) (w : World) (k : Nat) : Prop := Away bb w k ∧ k ≠ mb
abbrev FrM (mb bb : Nat) (w w' : World) : Prop := Fr (AwayM mb bb w) (AwayM mb bb w') w w'
theorem FrM.of_fr {mb bb : Nat} {w w' : World} (h : FrB bb w w') : FrM mb bb w w' := h.weaken (fun _ hk => hk.1) (fun _ hk hk' => ⟨hk', hk.2⟩)
theorem IsM.fr {mb bb : Nat} {w w' : World} {s : MS} {F' : Form} (h : IsM w mb bb s) (hf : FrB bb w w') (hB : IsB w' bb F') : IsM w' mb bb (F', s.2) :=
  ⟨(hf.keep mb h.away).2.trans h.blk, (hf.keep mb h.away).1, hB⟩
theorem IsM.cells {w : World} {mb bb : Nat} {s : MS} (h : IsM w mb bb s) : w.cell? ⟨mb, 0, none⟩ = some (.pointer (some ⟨bb, 0, none⟩)) ∧ w.cell? ⟨mb, 1, none⟩ = some (.int .i64 s.2) ∧ w.frozen? ⟨mb, 1, none⟩ = false := by
  have := h.blk
  exact ⟨by simp [World.cell?, this], by simp [World.cell?, this], by simp [World.frozen?, this]⟩
/-- A store into a block that is not the builder's. -/
theorem IsB.far {w : World} {bb m : Nat} {F : Form} (h : IsB w bb F) (hm : Away bb w m) (i : Nat) (u : Value) :
    IsB (w.setCell ⟨m, i, none⟩ u) bb F ∧ Fr (fun k => Away bb w k ∧ k ≠ m) (Away bb (w.setCell ⟨m, i, none⟩ u)) w (w.setCell ⟨m, i, none⟩ u) ∧ ∀ k, Away bb w k → Away bb (w.setCell ⟨m, i, none⟩ u) k := by
  obtain ⟨v, vs, hh, ho, hne, hl, hc, hr⟩ := h.ex
  have hbm : bb ≠ m := fun e => hm.ne e.symm
  have hh' : (w.setCell ⟨m, i, none⟩ u).heap[bb]? = _ := (Below.heap_setCell _ _ _ _ hbm).trans hh
  have hvm : v.ownBlock ≠ some m := by have := hm.1.2.2; rw [bblk_of hh] at this; exact this
  have ho' : (w.setCell ⟨m, i, none⟩ u).ownsRow 0 23 1 v vs.length vs :=
    ho.kept (row := some m) ⟨rfl, rfl, rfl, by simp, fun k hk hne' => Below.heap_setCell _ _ _ _ (fun e => hne' (by rw [e]))⟩ (.inr hvm)
  have hRd : ∀ k, Rd bb w k → Rd bb (w.setCell ⟨m, i, none⟩ u) k := fun k hk => ⟨by simpa using hk.1, hk.2.1, by have := hk.2.2; rw [bblk_of hh] at this; rw [bblk_of hh']; exact this⟩
  have hA : ∀ k, Away bb w k → Away bb (w.setCell ⟨m, i, none⟩ u) k := fun k hk => ⟨hRd k hk.1, fun e => hk.2 ((bcl_of hh ho).2 ((bcl_of hh' ho').1 e))⟩
  refine ⟨⟨⟨v, vs, hh', ho', hne, hl, fun j hj hj' => ?_, fun x hx k hk => hRd k (hr x hx k hk)⟩, h.pos, h.vars, h.cls⟩, ⟨rfl, rfl, rfl, by simp, fun k hk => ⟨hA k hk.1, Below.heap_setCell _ _ _ _ hk.2⟩⟩, hA⟩
  refine Sl.keep (Sl.own (hc j hj hj')) (fun k hk => ⟨hRd k hk.1, Below.heap_setCell _ _ _ _ (fun e => ?_)⟩)
  have e' : k = m := e
  subst e'
  exact hm.2 ((bcl_of hh ho).2 ⟨_, List.getElem_mem hj', hk.2⟩)
/-- The maker's error is stored. -/
theorem IsM.setE {w : World} {mb bb : Nat} {s : MS} (h : IsM w mb bb s) (e : Int) : IsM (w.setCell ⟨mb, 1, none⟩ (.int .i64 e)) mb bb (s.1, e) ∧ FrM mb bb w (w.setCell ⟨mb, 1, none⟩ (.int .i64 e)) := by
  have hb := h.blk
  obtain ⟨h1, h2, h3⟩ := h.b.far h.away 1 (.int .i64 e)
  exact ⟨⟨by simp [World.setCell, Array.getElem?_modify, hb], h3 mb h.away, h1⟩, h2.weaken (fun k hk => hk) (fun k hk hk' => ⟨hk', hk.2⟩)⟩

/-- What a maker's method comes to. -/
def MPost (mb bb : Nat) (w : World) (r : Int × MS) (e : Ending) (w' : World) : Prop := e = .returned (.int .i64 r.1) ∧ IsM w' mb bb r.2 ∧ FrM mb bb w w'


set_option maxHeartbeats 400000 in
theorem mmux_any (mb bb : Nat) (s : MS) (c x y : Int) (w : World) (hM : IsM w mb bb s) (hc : Bd c) (hx : Bd x) (hy : Bd y) :
    Calls Tryd.prog 39 #[.pointer (some ⟨mb, 0, none⟩), .int .i64 c, .int .i64 x, .int .i64 y] w (MPost mb bb w (mkM (fun F => muxM F c x y) s)) := by
  obtain ⟨c0, c1, f1⟩ := hM.cells
  by_cases hs : s.2 = 0
  · have e : mkM (fun F => muxM F c x y) s = ((muxM s.1 c x y).1, ((muxM s.1 c x y).2.2, (muxM s.1 c x y).2.1)) := by simp [mkM, hs]
    rw [e]; clear e
    have hd : (s.2 != 0) = false := by simp [hs]
    have hc := mux_any bb s.1 c x y w hM.b (by unfold Bd at hc; omega) (by unfold Bd at hx; omega) (by unfold Bd at hy; omega)
    have hm := fun w' hfr hB => IsM.fr (F' := (muxM s.1 c x y).2.2) (w' := w') hM hfr hB
    generalize muxM s.1 c x y = r at *
    have HC := hid hc; have HM := hid hm; clear hc hm hs
    go_enter Tryd.func39, Tryd.ntmps39
    go_wp2_with (go_at_call 52; refine HC.out.mono ?_; rintro e w1 ⟨rfl, hB1, hfr1⟩; obtain ⟨c0', c1', f1'⟩ := (HM.out w1 hfr1 hB1).cells)
    go_ret
    have h2 := (HM.out w1 hfr1 hB1).setE r.2.1
    exact ⟨rfl, h2.1, (FrM.of_fr hfr1).trans h2.2⟩
  · have e : mkM (fun F => muxM F c x y) s = (0, s) := by simp [mkM, hs]
    rw [e]; clear e
    have hd : (s.2 != 0) = true := by simp [hs]
    have HS := hid hs; clear hs
    go_enter Tryd.func39, Tryd.ntmps39
    go_wp2
    go_ret
    exact ⟨rfl, hM, Fr.refl _ _⟩

end Go.Proofs.YtjcnhnifageikaaDoor

namespace Go.Proofs.YtjcnhnifageikaaDoor
set_option linter.unusedSimpArgs false
set_option linter.unusedVariables false
open Go.RowKit

theorem below_drewN {B : Nat} {a w : World} (h : Below B a w) (n : Nat) : Below B a (w.drewN n) := ⟨h.os, h.tape, h.output, h.size, h.block⟩

set_option maxHeartbeats 400000 in
theorem word_any (mb : Nat) (er : Int) (p : Option Addr) (n c : Nat) (w : World) (c1 : w.cell? ⟨mb, 1, none⟩ = some (.int .i64 er)) :
    Calls Tryd.prog 40 #[.pointer (some ⟨mb, 0, none⟩), .slice p n c] w fun e w' =>
      e = .returned (.tuple #[if er = 0 then .slice p n c else .slice none 0 0, .int .i64 er]) ∧ Below w.heap.size w w' := by
  by_cases hs : er = 0
  · subst hs
    go_enter Tryd.func40, Tryd.ntmps40
    go_wp2
    go_ret2
    exact ⟨rfl, Below.refl _ _⟩
  · rw [if_neg hs]
    have hd : (er != 0) = true := by simp [hs]
    have HS := hid hs; clear hs
    go_enter Tryd.func40, Tryd.ntmps40
    go_wp2_with fail
    go_quiet (fail)
    go_wp2
    go_ret2
    exact ⟨rfl, below_drewN (Below.refl _ _) _⟩

/-- A row is kept where its own block is. -/
theorem owns_keep {w w' : World} {base e n : Nat} {v : Value} {xs : List Value} (h : w.ownsRow base e 1 v n xs) (hk : ∀ j, v.ownBlock = some j → w'.heap[j]? = w.heap[j]?) : w'.ownsRow base e 1 v n xs := by
  refine ⟨h.1, ?_⟩
  rcases h.2 with h' | ⟨g, cap, cur, hv, hb, hg, rest⟩
  · exact .inl h'
  · exact .inr ⟨g, cap, cur, hv, hb, (hk g (by rw [hv]; rfl)).trans hg, rest⟩

end Go.Proofs.YtjcnhnifageikaaDoor
