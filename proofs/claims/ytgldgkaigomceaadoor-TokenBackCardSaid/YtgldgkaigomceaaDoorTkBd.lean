/-
  The walk of TokenBad: a byte that stands in no text.
-/
import Derived.Test.YtgldgkaigomceaaDoorTkB
import Derived.Test.YtgldgkaigomceaaDoorTkJ
import Derived.Test.YtgldgkaigomceaaDoorKMod
namespace Go.Proofs.YtgldgkaigomceaaDoor
set_option linter.unusedSimpArgs false
set_option linter.unusedVariables false
open Go.RowKit Go.Shelf
attribute [local go_sem] Oper.semAt_some

theorem ext_take (l : Bs) (k : Nat) : (⟨l.toArray⟩ : ByteArray).extract 0 k = ⟨(l.take k).toArray⟩ := by
  apply ByteArray.ext
  rw [ByteArray.data_extract]; simp
theorem ext_drop (l : Bs) (k : Nat) : (⟨l.toArray⟩ : ByteArray).extract k l.length = ⟨(l.drop k).toArray⟩ := by
  apply ByteArray.ext
  rw [ByteArray.data_extract]; simp [List.take_of_length_le]
theorem bad_cat1 (l : Bs) (C : UInt8) : (⟨#[120, 10]⟩ : ByteArray) ++ ⟨l.toArray⟩ ++ ⟨#[35]⟩ ++ ⟨#[C]⟩ ++ ⟨#[10, 121]⟩ = ⟨(120 :: 10 :: (l ++ 35 :: C :: 10 :: [121])).toArray⟩ := by
  rw [ByteArray.mk_append_mk, ByteArray.mk_append_mk, ByteArray.mk_append_mk, ByteArray.mk_append_mk]; simp
theorem bad_cat2 (a b : Bs) (C : UInt8) : (⟨#[120, 10]⟩ : ByteArray) ++ ⟨a.toArray⟩ ++ ⟨#[C]⟩ ++ ⟨b.toArray⟩ = ⟨(120 :: 10 :: (a ++ C :: b)).toArray⟩ := by
  rw [ByteArray.mk_append_mk, ByteArray.mk_append_mk, ByteArray.mk_append_mk]; simp

end Go.Proofs.YtgldgkaigomceaaDoor
