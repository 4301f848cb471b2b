/-
  The walk of TokenWords: names and numbers are the reference's.
-/
import Derived.Test.YtgldgkaigomceaaTkG
namespace Go.Proofs.Ytgldgkaigomceaa
set_option linter.unusedSimpArgs false
set_option linter.unusedVariables false
open Go.RowKit Go.Shelf
attribute [local go_sem] Oper.semAt_some

theorem ba_list (sb : ByteArray) : ∃ l : Bs, sb = ⟨l.toArray⟩ ∧ l.length = sb.size := ⟨sb.data.toList, rfl, rfl⟩

set_option maxRecDepth 100000 in
set_option maxHeartbeats 2000000 in
theorem words_walk (sb : ByteArray) (m : Int) (w : World) (hs : sb.size ≤ 9223372036854775807) (hm : w.cell? ⟨0, 0, none⟩ = some (.int .i64 m)) :
    Calls Try.prog 4 #[.string sb] w fun e w' => e = .returned (.bool true) ∧ Below w.heap.size w w' := by
  have h0 : 0 < w.heap.size := World.block_lt_of_cell? w _ hm
  have HM := hid hm
  clear hm
  go_enter Try.func4, Try.ntmps4
  go_wp2_with fail
  have hx : (sb.extract 0 (min (↑sb.size) 60 : Int).toNat).size ≤ 60 := by
    show (sb.extract 0 _).data.size ≤ 60
    rw [ByteArray.data_extract, Array.size_extract]; omega
  generalize sb.extract 0 (min (↑sb.size) 60 : Int).toNat = sc at *
  obtain ⟨l, rfl, hl⟩ := ba_list sc
  have hl2 : l.length ≤ 140737488355328 := by omega
  clear hx hl
  refine (number_any l w hl2).mono ?_
  rintro e w1 ⟨rfl, hb1⟩
  have HB := hid hb1
  clear hb1
  obtain ⟨p, hp⟩ : ∃ p, numR l = p := ⟨_, rfl⟩
  have HRN := hid (fun w => rnumber_any l w hl2)
  rw [hp] at *
  go_wp2_with fail
  refine (HRN.out _).mono ?_
  rintro e w2 ⟨rfl, rfl⟩
  clear HRN
  obtain ⟨b, hbn⟩ : ∃ b, nameB l = b := ⟨_, rfl⟩
  have HRN := hid (fun w => rname_any l w hl2)
  have HN := hid (fun w => name_any l w hl2)
  rw [hbn] at *
  clear hp hbn
  go_wp2_with fail
  refine (HN.out _).mono ?_
  rintro e w3 ⟨rfl, hb3⟩
  have HB3 := hid (HB.out.trans (hb3.mono HB.out.size))
  clear hb3 HB HN
  go_wp2_with fail
  refine (HRN.out _).mono ?_
  rintro e w4 ⟨rfl, rfl⟩
  clear HRN
  have HAW := hid (awake_any m w3 ((HB3.out.cell h0).trans HM.out))
  go_wp2_with fail
  refine HAW.out.mono ?_
  rintro e w5 ⟨rfl, hb5⟩
  have HB5 := hid (HB3.out.trans (hb5.mono HB3.out.size))
  clear hb5 HB3 HAW
  go_wp2
  go_ret
  exact ⟨rfl, HB5.out⟩

end Go.Proofs.Ytgldgkaigomceaa
