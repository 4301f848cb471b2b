/-
  What the row's listed variable gives the walks: the law's table of operators; the door's own heap meets the condition.
-/
import Derived.Test.YtjcnhnifageikaaDoorRows
import Derived.Test.YtjcnhnifageikaaDoorShP2
import Derived.ProofKit
import Derived.LaidMore
import Derived.OpenShut
import Derived.Stop.Joined
namespace Go.Proofs.YtjcnhnifageikaaDoor
set_option linter.unusedSimpArgs false
set_option linter.unusedVariables false
open Go.ChangeShapes Go.WideShapes Go.ChangeAt Go.WideMaps Go.WideElems Go.RowKit

theorem gOps : Tryd.prog.globalNamed "weephole/weepholelaw18.ops" = some 0 := by kernel_rfl
theorem tOps : (Tryd.prog.globals[0]?).map (·.type) = some 36 := by kernel_rfl
theorem c5 : Tryd.prog.cellsOf 5 = 1 := by kernel_rfl

theorem door_met (os : Os) (args : Array Value) : laidMetH Tryd.prog [("weephole/weepholelaw18.ops", Rows.laid_weephole_weepholelaw18_ops)] ((World.doorLaid Tryd.prog 400 os).forCall (fun _ _ => 0) ⟨#[], args, []⟩).memory :=
  laidMetH_of_parts3 (fuel := 8) (laidMet_of_run' 8 (by kernel_rfl) (by kernel_rfl)) (by kernel_rfl) (by kernel_rfl)

theorem take_at {l : List Value} {i : Nat} {v : Value} (h : (l.drop i).take 1 = [v]) : l[i]? = some v := by
  have e : l[i]? = ((l.drop i).take 1)[0]? := by simp [List.getElem?_drop]
  rw [e, h]; rfl

set_option maxRecDepth 100000 in
theorem ops_of_laid {W : World} (h : laidMetH Tryd.prog [("weephole/weepholelaw18.ops", Rows.laid_weephole_weepholelaw18_ops)] W) : Ops W := by
  rw [MakeChecks.laidMetH_plain _ _ _ (by kernel_rfl)] at h
  obtain ⟨ps, ⟨g0, t0, cs0, f0, p0, q0, hg0, ht0, hv0, hd0, _, _⟩, _, _⟩ := h
  obtain rfl := Option.some.inj (gOps.symm.trans hg0)
  obtain rfl := Option.some.inj (tOps.symm.trans ht0)
  obtain ⟨xs, m1, rfl, hx1, hlen, hn3, hel⟩ := DataW.trod_array Tryd.underlying36 hd0
  have hcell := World.var?_cell hg0 hv0
  simp only [Prod.mk.injEq, Rows.laid_weephole_weepholelaw18_ops, DataW.agg.injEq] at hx1
  have hlen3 : cs0.size = 3 := by
    have e : Tryd.prog.cellsOf 36 = 3 := by kernel_rfl
    rw [e] at hlen; simpa using hlen
  match xs, hn3, hx1, hel with
  | [x0, x1, x2], _, hx1, hel =>
    simp only [List.map_cons, List.map_nil, List.cons.injEq] at hx1
    have h0 := hel 0 (by decide)
    have h1 := hel 1 (by decide)
    have h2 := hel 2 (by decide)
    rw [c5] at h0 h1 h2
    obtain ⟨a0, e0, f0, _⟩ := DataW.trod_int Tryd.underlying5 (show DataW.trod _ Tryd.prog W 0 _ false m1 5 _ = some x0 from h0)
    obtain ⟨a1, e1, f1, _⟩ := DataW.trod_int Tryd.underlying5 (show DataW.trod _ Tryd.prog W 0 _ false m1 5 _ = some x1 from h1)
    obtain ⟨a2, e2, f2, _⟩ := DataW.trod_int Tryd.underlying5 (show DataW.trod _ Tryd.prog W 0 _ false m1 5 _ = some x2 from h2)
    obtain ⟨⟨g0, g1, g2, _⟩, _⟩ := hx1
    rw [f0] at g0; rw [f1] at g1; rw [f2] at g2
    simp only [DataW.lit.injEq, Lit.int.injEq, true_and] at g0 g1 g2
    have at0 := take_at e0
    have at1 := take_at e1
    have at2 := take_at e2
    rw [← g0] at at0; rw [← g1] at at1; rw [← g2] at at2
    simp only [Nat.zero_mul, Nat.one_mul, Nat.mul_one, Array.getElem?_toList] at at0 at1 at2
    refine ⟨fun i hi => ?_, ?_⟩
    · rw [hcell]
      have : i = 0 ∨ i = 1 ∨ i = 2 := by omega
      rcases this with rfl | rfl | rfl
      · exact at0
      · exact at1
      · exact at2
    · have := hcell 0
      rw [at0] at this
      by_cases hlt : 0 < W.heap.size
      · exact hlt
      · have hn : W.heap[0]? = none := Array.getElem?_eq_none (by omega)
        simp [World.cell?, hn] at this

end Go.Proofs.YtjcnhnifageikaaDoor
