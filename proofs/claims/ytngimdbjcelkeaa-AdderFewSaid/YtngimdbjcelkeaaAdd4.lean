/-
  The walks of package adder: opposite, the full adder.
-/
import Derived.Test.YtngimdbjcelkeaaRange
import Derived.Laws.MakeOwn
namespace Go.Proofs.Ytngimdbjcelkeaa
set_option linter.unusedSimpArgs false
set_option linter.unusedVariables false
open Go.RowKit

theorem Fr.cell {R R' : Nat → Prop} {w w' : World} (h : Fr R R' w w') {k i : Nat} (hk : R k) : w'.cell? ⟨k, i, none⟩ = w.cell? ⟨k, i, none⟩ := World.cell?_of_block (a := ⟨k, i, none⟩) (h.keep k hk).2
theorem Fr.frozen {R R' : Nat → Prop} {w w' : World} (h : Fr R R' w w') {k i : Nat} (hk : R k) : w'.frozen? ⟨k, i, none⟩ = w.frozen? ⟨k, i, none⟩ := World.frozen?_of_block (a := ⟨k, i, none⟩) (h.keep k hk).2

/-- A store into a block that is neither the maker's nor the builder's. -/
theorem IsM.far {w : World} {mb bb m : Nat} {s : MS} (h : IsM w mb bb s) (hm : AwayM mb bb w m) (i : Nat) (u : Value) :
    IsM (w.setCell ⟨m, i, none⟩ u) mb bb s ∧ Fr (fun k => AwayM mb bb w k ∧ k ≠ m) (AwayM mb bb (w.setCell ⟨m, i, none⟩ u)) w (w.setCell ⟨m, i, none⟩ u) ∧ ∀ k, AwayM mb bb w k → AwayM mb bb (w.setCell ⟨m, i, none⟩ u) k := by
  obtain ⟨h1, h2, h3⟩ := h.b.far hm.1 i u
  exact ⟨⟨(Below.heap_setCell _ _ _ _ (fun e => hm.2 e.symm)).trans h.blk, h3 _ h.away, h1⟩, h2.weaken (fun k hk => ⟨hk.1.1, hk.2⟩) (fun k hk hk' => ⟨hk', hk.1.2⟩), fun k hk => ⟨h3 k hk.1, hk.2⟩⟩

theorem mkM_bd {g : Form → Out} {s : MS} (h : Bd (g s.1).1) : Bd (mkM g s).1 := by
  unfold mkM; split
  · exact Bd.zero
  · exact h

/-- The full adder: sum, carry, state. -/
def fullM (s : MS) (carry p q : Int) : Int × Int × MS :=
  let r1 := mkM (fun F => xorM F p q) s
  let r2 := mkM (fun F => xorM F r1.1 carry) r1.2
  let r3 := mkM (fun F => muxM F r1.1 carry p) r2.2
  (r2.1, r3.1, r3.2)

set_option maxHeartbeats 800000 in
theorem full_any (mb bb Bm Bc : Nat) (s : MS) (carry p q : Int) (w : World) (hM : IsM w mb bb s) (hm : AwayM mb bb w Bm) (hc : AwayM mb bb w Bc) (hne : Bm ≠ Bc)
    (cm : w.cell? ⟨Bm, 0, none⟩ = some (.pointer (some ⟨mb, 0, none⟩))) (cc : w.cell? ⟨Bc, 0, none⟩ = some (.int .i64 carry)) (fc : w.frozen? ⟨Bc, 0, none⟩ = false)
    (hp : Bd p) (hq : Bd q) (hcy : Bd carry) :
    Calls Try.prog 88 #[.int .i64 p, .int .i64 q, .pointer (some ⟨Bm, 0, none⟩), .pointer (some ⟨Bc, 0, none⟩)] w fun e w' =>
      e = .returned (.int .i64 (fullM s carry p q).1) ∧ IsM w' mb bb (fullM s carry p q).2.2 ∧ w'.cell? ⟨Bc, 0, none⟩ = some (.int .i64 (fullM s carry p q).2.1) ∧ w'.frozen? ⟨Bc, 0, none⟩ = false ∧
        Fr (fun k => AwayM mb bb w k ∧ k ≠ Bc) (AwayM mb bb w') w w' ∧ AwayM mb bb w' Bc := by
  have b1 : Bd (mkM (fun F => xorM F p q) s).1 := mkM_bd (xorM_bd _ _ _ hM.b.vars hp hq)
  unfold fullM
  dsimp only
  have c1 := mxor_any mb bb s p q w hM hp hq
  generalize mkM (fun F => xorM F p q) s = r1 at *
  have c2 := fun w1 (h : IsM w1 mb bb r1.2) => mxor_any mb bb r1.2 r1.1 carry w1 h b1 hcy
  have c3 := fun (r2 : MS) w1 (h : IsM w1 mb bb r2) => mmux_any mb bb r2 r1.1 carry p w1 h b1 hcy hp
  have C1 := hid c1; have C2 := hid c2; have C3 := hid c3
  clear c1 c2 c3
  generalize mkM (fun F => xorM F r1.1 carry) r1.2 = r2 at *
  have HM := hid hM
  go_enter Try.func88, Try.ntmps88
  go_wp2_with fail
  refine C1.out.mono ?_
  rintro e w1 ⟨rfl, hM1, hf1⟩
  have cm1 := (hf1.cell (i := 0) hm).trans cm
  have cc1 := (hf1.cell (i := 0) hc).trans cc
  go_wp2_with fail
  refine (C2.out w1 hM1).mono ?_
  rintro e w2 ⟨rfl, hM2, hf2⟩
  have hf12 := hf1.trans hf2
  have cm2 := (hf12.cell (i := 0) hm).trans cm
  have cc2 := (hf12.cell (i := 0) hc).trans cc
  go_wp2_with fail
  refine (C3.out r2.2 w2 hM2).mono ?_
  rintro e w3 ⟨rfl, hM3, hf3⟩
  have hf123 := hf12.trans hf3
  have cc3 := (hf123.cell (i := 0) hc).trans cc
  have fc3 := (hf123.frozen (i := 0) hc).trans fc
  have hc3 := (hf123.keep Bc hc).1
  go_wp2
  go_ret
  obtain ⟨g1, g2, g3⟩ := hM3.far hc3 0 (.int .i64 (mkM (fun F => muxM F r1.1 carry p) r2.2).1)
  refine ⟨rfl, g1, World.cell?_setCell_same (a := ⟨Bc, 0, none⟩) (v := .int .i64 (mkM (fun F => muxM F r1.1 carry p) r2.2).1) _ cc3, by rw [World.frozen?_setCell]; exact fc3, ?_, g3 _ hc3⟩
  exact Fr.trans (hf123.weaken (S' := fun k => AwayM mb bb w3 k ∧ k ≠ Bc) (fun k hk => hk.1) (fun k hk hk' => ⟨hk', hk.2⟩)) g2

end Go.Proofs.Ytngimdbjcelkeaa
