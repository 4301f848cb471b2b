/-
  The walk of TokenNumbers.
-/
import Derived.Test.YtgldgkaigomceaaDoorTkG
import Derived.Test.YtgldgkaigomceaaDoorTkB
import Derived.Test.YtgldgkaigomceaaDoorTkPN
import Derived.Test.YtgldgkaigomceaaDoorKMod
import Derived.Test.YtgldgkaigomceaaDoorFmt
namespace Go.Proofs.YtgldgkaigomceaaDoor
set_option linter.unusedSimpArgs false
set_option linter.unusedVariables false
open Go.RowKit Go.Shelf
attribute [local go_sem] Oper.semAt_some

theorem cat_pre (c : UInt8) (s : Bs) : (⟨#[c]⟩ : ByteArray) ++ ⟨s.toArray⟩ = ⟨(c :: s).toArray⟩ := by
  rw [ByteArray.mk_append_mk]; simp
theorem cat_post (s t : Bs) : (⟨s.toArray⟩ : ByteArray) ++ ⟨t.toArray⟩ = ⟨(s ++ t).toArray⟩ := by
  rw [ByteArray.mk_append_mk]
def z22 : Bs := [48, 48, 48, 48, 48, 48, 48, 48, 48, 48, 48, 48, 48, 48, 48, 48, 48, 48, 48, 48, 48, 48]
theorem cat22 (s : Bs) : (⟨s.toArray⟩ : ByteArray) ++ (⟨#[48, 48, 48, 48, 48, 48, 48, 48, 48, 48, 48, 48, 48, 48, 48, 48, 48, 48, 48, 48, 48, 48]⟩ : ByteArray) = (⟨(s ++ z22).toArray⟩ : ByteArray) := cat_post s z22
theorem cat_drop (s : Bs) (k d : Nat) (h : s.length = k + d) : (⟨#[97]⟩ : ByteArray) ++ (⟨s.toArray⟩ : ByteArray).extract 1 (k + d) = ⟨(97 :: s.drop 1).toArray⟩ := by
  have e : (⟨s.toArray⟩ : ByteArray).extract 1 (k + d) = ⟨(s.drop 1).toArray⟩ := by
    apply ByteArray.ext
    rw [ByteArray.data_extract]; simp [List.take_of_length_le, h]
  rw [e, ByteArray.mk_append_mk]; simp

set_option maxRecDepth 100000 in
set_option maxHeartbeats 4000000 in
theorem numbers_walk (n : Nat) (z m : Int) (w : World) (hn : n ≤ 18446744073709551615) (hzb : -9223372036854775808 ≤ z ∧ z ≤ 9223372036854775807) (hm : w.cell? ⟨1, 0, none⟩ = some (.int .i64 m))
    (htab : Lib.TabIs Tryd.prog w "internal/strconv.uint64pow10" .u64 Lib.pow10Tab) :
    Calls Tryd.prog 4 #[.int .u64 (n : Int), .int .i64 z] w fun e w' => e = .returned (.bool true) ∧ Below w.heap.size w w' := by
  have h0 : 1 < w.heap.size := World.block_lt_of_cell? w _ hm
  have HM := hid hm
  have HFU := hid (formatuint_any n (by omega) w htab)
  have hd1 := nDigits_pos n
  have hd2 : Lib.nDigits n ≤ 20 := by
    rcases Nat.eq_zero_or_pos n with h | h
    · subst h; rw [Lib.nDigits_small (by omega)]; omega
    · have := Lib.numDigits_eq n h (by omega); split at this <;> omega
  have hz : (⟨(Lib.decDigits n).toArray⟩ : ByteArray).size = Lib.nDigits n := (size_mk _).trans (Lib.decDigits_length n)
  obtain ⟨k, hk, _, hmod⟩ := kmod_nat z (21 - Lib.nDigits n) w hzb (by omega) (by omega)
  rw [show ((21 - Lib.nDigits n : Nat) : Int) = 21 - (Lib.nDigits n : Int) by omega] at hmod
  have HMOD := hid hmod
  have hs1 : k + Lib.nDigits n ≤ 20 := by omega
  have HN := hid (numR_numS k n hn hs1)
  have hsl := numS_len k n
  have HALL := hid (numS_all k n)
  have HCAT := hid (show (⟨(Lib.repeatL [48] k).toArray⟩ : ByteArray) ++ ⟨(Lib.decDigits n).toArray⟩ = ⟨(numS k n).toArray⟩ from by
    rw [repeat_one, ByteArray.mk_append_mk]; simp [numS])
  have HREP := hid (fun w => Tryd.strings_Repeat ⟨#[48]⟩ k w (by omega) (by rw [show (⟨#[48]⟩ : ByteArray).size = 1 from rfl]; omega))
  have hy : (⟨(Lib.repeatL [48] k).toArray⟩ : ByteArray).size = k := by rw [size_mk, repeat_one]; simp
  have hzs : (⟨(numS k n).toArray⟩ : ByteArray).size = k + Lib.nDigits n := (size_mk _).trans hsl
  clear hm hmod hk htab
  generalize numS k n = s at *
  generalize Lib.decDigits n = D at *
  generalize Lib.nDigits n = d at *
  have HSL := hid hsl
  clear hsl
  go_enter Tryd.func4, Tryd.ntmps4
  go_wp2_with fail
  refine HFU.out.mono ?_
  rintro e w1 ⟨rfl, hb1⟩
  have HB1 := hid hb1
  clear hb1
  go_wp2_with fail
  refine (HMOD.out _).mono ?_
  rintro e w2 ⟨rfl, rfl⟩
  go_wp2_with fail
  refine (HREP.out _).mono ?_
  rintro e w2 ⟨rfl, hb2⟩
  have HB2 := hid (HB1.out.trans (hb2.mono HB1.out.size))
  clear hb2
  go_wp2_with fail
  rw [HCAT.out]
  clear hy hz HCAT HREP HMOD HFU
  refine (number_is s n n 0 _ (by rw [HSL.out]; omega) HN.out rfl).mono ?_
  rintro e w3 ⟨rfl, hb3⟩
  have HB3 := hid (HB2.out.trans (hb3.mono HB2.out.size))
  clear hb3
  go_wp2_with fail
  rw [cat_drop s _ _ HSL.out]
  refine (number_is (97 :: s.drop 1) 0 0 4 _ (by simp; rw [HSL.out]; omega) (numR_a s (by rw [HSL.out]; omega)) rfl).mono ?_
  rintro e w4 ⟨rfl, hb4⟩
  have HB4 := hid (HB3.out.trans (hb4.mono HB3.out.size))
  clear hb4
  go_wp2_with fail
  rw [cat22 s]
  refine (number_is (s ++ z22) 0 0 4 _ (by rw [List.length_append, HSL.out]; show k + d + 22 ≤ _; omega) (numR_long s z22 (by decide)) rfl).mono ?_
  rintro e w5 ⟨rfl, hb5⟩
  have HB5 := hid (HB4.out.trans (hb5.mono HB4.out.size))
  clear hb5
  go_wp2_with fail
  refine (name_is s false _ (by rw [HSL.out]; omega) (nameB_num s (by rw [HSL.out]; omega) HALL.out)).mono ?_
  rintro e w6 ⟨rfl, hb6⟩
  have HB6 := hid (HB5.out.trans (hb6.mono HB5.out.size))
  clear hb6
  go_wp2_with fail
  rw [cat_pre 97 s]
  refine (name_is (97 :: s) true _ (by simp [HSL.out]; omega) (nameB_pre 97 s (by rw [HSL.out]; omega) (by decide) (by decide) HALL.out)).mono ?_
  rintro e w7 ⟨rfl, hb7⟩
  have HB7 := hid (HB6.out.trans (hb7.mono HB6.out.size))
  clear hb7
  go_wp2_with fail
  rw [cat_pre 95 s]
  refine (name_is (95 :: s) true _ (by simp [HSL.out]; omega) (nameB_pre 95 s (by rw [HSL.out]; omega) (by decide) (by decide) HALL.out)).mono ?_
  rintro e w8 ⟨rfl, hb8⟩
  have HB8 := hid (HB7.out.trans (hb8.mono HB7.out.size))
  clear hb8
  go_wp2_with fail
  refine (awake_any m w8 ((HB8.out.cell h0).trans HM.out)).mono ?_
  rintro e w9 ⟨rfl, hb9⟩
  have HB9 := hid (HB8.out.trans (hb9.mono HB8.out.size))
  clear hb9
  go_wp2
  go_ret
  exact ⟨rfl, HB9.out⟩
theorem numbers_walkZ (x z m : Int) (w : World) (hx : 0 ≤ x ∧ x ≤ 18446744073709551615) (hzb : -9223372036854775808 ≤ z ∧ z ≤ 9223372036854775807) (hm : w.cell? ⟨1, 0, none⟩ = some (.int .i64 m))
    (htab : Lib.TabIs Tryd.prog w "internal/strconv.uint64pow10" .u64 Lib.pow10Tab) :
    Calls Tryd.prog 4 #[.int .u64 x, .int .i64 z] w fun e w' => e = .returned (.bool true) ∧ Below w.heap.size w w' := by
  obtain ⟨n, rfl⟩ : ∃ n : Nat, x = n := ⟨x.toNat, by omega⟩
  exact numbers_walk n z m w (by omega) hzb hm htab

end Go.Proofs.YtgldgkaigomceaaDoor
