/-
  What the rows' listed variables give the walks of law 39: the tables; the door's own heap meets the condition.
-/
import Derived.Test.YtehjfmbnebeioaaDoorRpW
import Derived.Test.YtehjfmbnebeioaaDoorHandS
import Derived.Test.YtehjfmbnebeioaaDoorOpB
import Derived.LaidMore
import Derived.OpenShut
import Derived.Stop.Joined
import Derived.Stop.LaidErr
import Derived.Lib.LaidTab
import Derived.Lib.ItoaNum
import Derived.MakeChecks
namespace Go.Proofs.YtehjfmbnebeioaaDoor
set_option linter.unusedSimpArgs false
set_option linter.unusedVariables false
open Go.ChangeShapes Go.WideShapes Go.ChangeAt Go.WideMaps Go.WideElems Go.RowKit

abbrev laidRp : List (String × DataW Unit) := [("math/bits.deBruijn32tab", Rows.laid_math_bits_deBruijn32tab), ("math/bits.deBruijn64tab", Rows.laid_math_bits_deBruijn64tab), ("internal/strconv.uint64pow10", Rows.laid_internal_strconv_uint64pow10), ("weephole/report.reasons", Rows.laid_weephole_report_reasons), ("weephole/report.errors", Rows.laid_weephole_report_errors)]
theorem door_met (os : Os) (args : Array Value) : laidMetH Tryd.prog laidRp ((World.doorLaid Tryd.prog 400 os).forCall (fun _ _ => 0) ⟨#[], args, []⟩).memory :=
  laidMetH_of_parts3 (fuel := 8) (laidMet_of_run' 8 (by kernel_rfl) (by kernel_rfl)) (by kernel_rfl) (by kernel_rfl)

/-- A table of strings as a row lists it. -/
def strData {H : Type} (zs : List (List UInt8)) : DataW H := .agg (zs.map fun z => .lit (.string z))
/-- AN ARRAY OF STRINGS THAT READS AS THE TABLE HOLDS THE TABLE's STRINGS. -/
theorem strs_of_tab {H : Type} {enc : TypeId × Value → H} {P : Program} {w : World} {base : Nat} {sp : Nat → Bool} {held : Bool} {fuel : Nat} {t e : TypeId} {n : Nat} {cs : List Value} {zs : List (List UInt8)} {p : List MemPlace}
    (ht : P.underlying t = some (.array n e)) (he : P.underlying e = some .string) (hce : P.cellsOf e = 1) (hct : P.cellsOf t = n)
    (h : DataW.trod enc P w base sp held fuel t cs = some (strData zs, p)) : ∀ i (hi : i < zs.length), cs[i]? = some (.string ⟨(zs[i]).toArray⟩) := by
  cases fuel with
  | zero => simp [DataW.trod] at h
  | succ fuel =>
    simp only [DataW.trod, ht, hce, hct, Nat.mul_one] at h
    split at h
    · rename_i hl
      obtain ⟨xs, hm, hx⟩ := Option.map_eq_some_iff.1 h
      have hxs : xs.map (·.1) = zs.map fun z => (DataW.lit (.string z) : DataW H) := by
        have := congrArg Prod.fst hx
        simpa [strData] using this
      have hxl : xs.length = n := by simpa using Lib.mapM_length hm
      have hzl : zs.length = n := by
        have := congrArg List.length hxs
        simp at this
        omega
      intro i hi
      obtain ⟨b, hb, hf⟩ := Lib.mapM_at hm i i (by simp [show i < n by omega])
      obtain ⟨s, hc, rfl, _⟩ := DataW.trod_string he hf
      have h1 : cs[i]? = some (.string s) := by
        have := congrArg (·[0]?) hc
        simpa [List.getElem?_take, List.getElem?_drop] using this
      have h2 : (xs.map (·.1))[i]? = some (DataW.lit (.string s.data.toList) : DataW H) := by simp [hb]
      rw [hxs] at h2
      simp only [List.getElem?_map, Option.map_eq_some_iff, DataW.lit.injEq, Lit.string.injEq] at h2
      obtain ⟨z', hz', hz2⟩ := h2
      rw [List.getElem?_eq_getElem hi, Option.some.injEq] at hz'
      rw [h1, hz', hz2]
    · cases h
theorem strCell_of_head {P : Program} {W : World} {name : String} {zs : List (List UInt8)} {rest : List (String × DataW Unit)} {g : Nat} {t e : TypeId} {n : Nat}
    (hg : P.globalNamed name = some g) (hty : (P.globals[g]?).map (·.type) = some t) (ht : P.underlying t = some (.array n e)) (he : P.underlying e = some .string) (hce : P.cellsOf e = 1) (hct : P.cellsOf t = n)
    (h : laidMet P ((name, strData zs) :: rest) W) (i : Nat) (hi : i < zs.length) : W.cell? ⟨g, i, none⟩ = some (.string ⟨(zs[i]).toArray⟩) := by
  obtain ⟨ps, ⟨g', t', cs, fuel, p, q, hg', ht', hvar, hd, _, _⟩, _⟩ := h
  obtain rfl := Option.some.inj (hg.symm.trans hg')
  obtain rfl := Option.some.inj (hty.symm.trans ht')
  have h1 := strs_of_tab ht he hce hct hd i hi
  have h2 := World.var?_cell hg hvar i
  rw [h2]; simpa using h1
theorem tabs_of_laid {W : World} (h : laidMetH Tryd.prog laidRp W) : Tabs W := by
  rw [MakeChecks.laidMetH_plain _ _ _ (by kernel_rfl)] at h
  refine ⟨fun i hi => ?_, fun i hi => ?_, ?_⟩
  · have := strCell_of_head (P := Tryd.prog) (n := 5) (zs := (List.range 5).map wReason) (show Tryd.prog.globalNamed "weephole/report.reasons" = some 0 by kernel_rfl) (show (Tryd.prog.globals[0]?).map (·.type) = some 57 by kernel_rfl) Tryd.underlying57 Tryd.underlying9 (by kernel_rfl) (by kernel_rfl) (show laidMet Tryd.prog (("weephole/report.reasons", strData ((List.range 5).map wReason)) :: [("weephole/report.errors", Rows.laid_weephole_report_errors)]) W from h.tail.tail.tail) i (by simpa using hi)
    rw [this]; simp
  · have := strCell_of_head (P := Tryd.prog) (n := 11) (zs := (List.range 11).map wErr) (show Tryd.prog.globalNamed "weephole/report.errors" = some 1 by kernel_rfl) (show (Tryd.prog.globals[1]?).map (·.type) = some 74 by kernel_rfl) Tryd.underlying74 Tryd.underlying9 (by kernel_rfl) (by kernel_rfl) (show laidMet Tryd.prog (("weephole/report.errors", strData ((List.range 11).map wErr)) :: []) W from h.tail.tail.tail.tail) i (by simpa using hi)
    rw [this]; simp
  · exact Lib.tabIs_of_head (P := Tryd.prog) (n := 20) (show Tryd.prog.globalNamed "internal/strconv.uint64pow10" = some 3 by kernel_rfl) (show (Tryd.prog.globals[3]?).map (·.type) = some 93 by kernel_rfl) Tryd.underlying93 Tryd.underlying37 (by kernel_rfl) (by kernel_rfl) (show laidMet Tryd.prog (("internal/strconv.uint64pow10", Lib.tabData .u64 Lib.pow10Tab) :: [("weephole/report.reasons", Rows.laid_weephole_report_reasons), ("weephole/report.errors", Rows.laid_weephole_report_errors)]) W from h.tail.tail)
end Go.Proofs.YtehjfmbnebeioaaDoor
