/-
 A start that meets what law 28 asks of the listed variables: the heap that the door's run leaves, with the pinned table laid.
-/
import Derived.Test.YtbijamcoibonkaaDoorASPoO
import Derived.Lay
namespace Go.Proofs.YtbijamcoibonkaaDoor
set_option linter.unusedSimpArgs false
set_option linter.unusedVariables false
open Go.ChangeShapes Go.WideShapes Go.ChangeAt Go.WideMaps Go.WideElems Go.RowKit Go.Joins
abbrev firstL:List (String × DataW Unit):=[("unicode/utf8.first",Rows.laid_unicode_utf8_first)]
noncomputable def wPo (os:Os):World:=(World.doorLaid Tryd.prog 400 os).layVars Tryd.prog firstL
theorem wPo_os (os:Os):(wPo os).os=os:=World.layVars_os _ _ _
theorem wPo_met (os:Os) (args:Array Value):laidMetH Tryd.prog laidPo ((wPo os).forCall (fun _ _=>0) ⟨#[],args,[]⟩).memory:=by
 refine laidMetH_of_parts3 (fuel:=8) ?_ (by kernel_rfl) (by kernel_rfl)
 have e1:(laidPo.filter fun x=>x.2.handleName?.isNone)=[("math/bits.deBruijn32tab",Rows.laid_math_bits_deBruijn32tab),("math/bits.deBruijn64tab",Rows.laid_math_bits_deBruijn64tab),("internal/strconv.uint64pow10",Rows.laid_internal_strconv_uint64pow10),("unicode/utf8.acceptRanges",Rows.laid_unicode_utf8_acceptRanges),("unicode/utf8.first",Rows.laid_unicode_utf8_first)]:=by kernel_rfl
 rw [e1]
 refine laidMet_layVars (w0:=World.doorLaid Tryd.prog 400 os) ["unicode/utf8.first"] [1,6,5,4] ?_ (by kernel_rfl) (by kernel_rfl) (LaidIn.of_run _ 8 (by kernel_rfl) (by kernel_rfl) (by kernel_rfl) (by kernel_rfl))
 have e2:(List.filter (fun x:String × DataW Unit=>["unicode/utf8.first"].contains x.1) [("math/bits.deBruijn32tab",Rows.laid_math_bits_deBruijn32tab),("math/bits.deBruijn64tab",Rows.laid_math_bits_deBruijn64tab),("internal/strconv.uint64pow10",Rows.laid_internal_strconv_uint64pow10),("unicode/utf8.acceptRanges",Rows.laid_unicode_utf8_acceptRanges),("unicode/utf8.first",Rows.laid_unicode_utf8_first)])=firstL:=by kernel_rfl
 rw [e2]
 simp [World.memory,World.forCall,Input.heap,wPo]
end Go.Proofs.YtbijamcoibonkaaDoor
