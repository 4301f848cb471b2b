/-
 The reference: numbers, operands, words (weepholeref24).
-/
import Derived.Test.YtbijamcoibonkaaDoorCB29
import Derived.Test.YtbijamcoibonkaaDoorCB8
import Derived.Deep.DeepCutAuto
namespace Go.Proofs.YtbijamcoibonkaaDoor
set_option linter.unusedSimpArgs false
set_option linter.unusedVariables false
open Go.RowKit Go.Shelf
attribute [local go_sem] Oper.semAt_some
theorem conv8d (k:Nat) (h:k<10) (w:World):(convert 66 9 (.slice (some ⟨w.heap.size,0,none⟩) 1 1)).run Tryd.prog (w.alloc (.cells #[.int .u8 (48+(k:Int))] 5)) = .ok (.string ⟨#[UInt8.ofNat (48+k)]⟩) (w.alloc (.cells #[.int .u8 (48+(k:Int))] 5)):=by
 have e:((UInt8.ofNat (48+k)).toNat:Int)=48+(k:Int):=by rw [UInt8.toNat_ofNat'];omega
 rw [← e]
 exact conv1 _ w
set_option maxRecDepth 100000 in
set_option maxHeartbeats 400000 in
theorem rnum_any (u:Nat) (hu:u<18446744073709551616) (w:World):Calls Tryd.prog 36 #[.int .u64 (u:Int)] w fun e w'=>e = .returned (.string ⟨(Lib.decDigits u).toArray⟩)∧Below w.heap.size w w':=by
 induction u using Nat.strongRecOn generalizing w with
 | _ u ih =>
  have HU:=hid hu
  obtain ⟨r,hr⟩:∃ r,u % 10=r:=⟨_,rfl⟩
  have hr10:r<10:=by omega
  have hrz:(u:Int) % 10=(r:Int):=by omega
  have hrt:(u:Int).tmod 10=(r:Int):=by rw [Int.tmod_eq_emod_of_nonneg (by omega)];exact hrz
  obtain ⟨C,hC⟩:∃ C,UInt8.ofNat (48+r)=C:=⟨_,rfl⟩
  have hcv:=fun w=>conv8d r hr10 w
  rw [hC] at hcv
  by_cases h:u<10
  ·have HD:=hid (show Lib.decDigits u=[C] from by rw [← hC,Lib.decDigits_one h,← hr];congr;omega)
   have h':decide ((u:Int)<10)=true:=by simp;omega
   clear ih hu h hC
   go_enter Tryd.func36,Tryd.ntmps36
   go_wp2_with fail
   go_ret
   exact ⟨by rw [HD.out];rfl,(Below.refl _ _).alloc (Nat.le_refl _) _⟩
  ·obtain ⟨q,hq⟩:∃ q,u / 10=q:=⟨_,rfl⟩
   have HD:=hid (show Lib.decDigits u=Lib.decDigits q++[C] from by rw [Lib.decDigits,dif_neg h,hr,hq,hC])
   have h':decide ((u:Int)<10)=false:=by simp;omega
   have HIH:=hid (ih q (by omega) (by omega))
   have hqz:(u:Int) / 10=(q:Int):=by omega
   have hqt:(u:Int).tdiv 10=(q:Int):=by rw [Int.tdiv_eq_ediv_of_nonneg (by omega)];exact hqz
   have hql:q<18446744073709551616:=by omega
   obtain ⟨D,hDq⟩:∃ D,Lib.decDigits q=D:=⟨_,rfl⟩
   rw [hDq] at HD HIH
   have hk1:¬ 9223372036854775807<D.length+1:=by rw [← hDq,Lib.decDigits_length];have:=Lib.nDigits_le20 q hql;omega
   clear ih hu h hC hq hDq hr
   go_enter Tryd.func36,Tryd.ntmps36
   go_wp2_with (go_at_call 36;(with_reducible refine (HIH.out _).mono ?_);rintro e w1 ⟨rfl,hb1⟩;have HB1:=hid (((Below.refl w.heap.size w).alloc (Nat.le_refl _) _).trans (hb1.mono (by rw [World.size_alloc];omega)));clear hb1)
   go_ret
   refine ⟨?_,HB1.out⟩
   rw [HD.out]
   show Ending.returned (.string (⟨D.toArray⟩++⟨#[C]⟩))=_
   rw [ByteArray.mk_append_mk]
end Go.Proofs.YtbijamcoibonkaaDoor
