/-
 Numbers: the program's and the reference's walks.
-/
import Derived.Test.YtoofbgoeipijcaaGreatDoorVSTkN
import Derived.IntWalk
import Derived.Test.YtoofbgoeipijcaaGreatDoorVSPrX
import Derived.Deep.DeepCutAuto
import Derived.Test.YtoofbgoeipijcaaGreatDoorVB6
namespace Go.Proofs.YtoofbgoeipijcaaGreatDoor
set_option linter.unusedSimpArgs false
set_option linter.unusedVariables false
open Go.RowKit Go.Shelf
end Go.Proofs.YtoofbgoeipijcaaGreatDoor
namespace Go.Proofs.YtoofbgoeipijcaaGreatDoor
set_option linter.unusedSimpArgs false
set_option linter.unusedVariables false
open Go.RowKit Go.Shelf
attribute [local go_sem] Oper.semAt_some
theorem conv8d (k:Nat) (h:k<10) (w:World):(convert 51 9 (.slice (some ⟨w.heap.size,0,none⟩) 1 1)).run Tryz.prog (w.alloc (.cells #[.int .u8 (48+(k:Int))] 5)) = .ok (.string ⟨#[UInt8.ofNat (48+k)]⟩) (w.alloc (.cells #[.int .u8 (48+(k:Int))] 5)):=by
 have e:((UInt8.ofNat (48+k)).toNat:Int)=48+(k:Int):=by rw [UInt8.toNat_ofNat'];omega
 rw [← e]
 exact conv1 _ w
set_option maxRecDepth 100000 in
set_option maxHeartbeats 400000 in
theorem rnum_any (u:Nat) (hu:u<18446744073709551616) (w:World):Calls Tryz.prog 52 #[.int .u64 (u:Int)] w fun e w'=>e = .returned (.string ⟨(Lib.decDigits u).toArray⟩)∧Below w.heap.size w w':=by
 induction u using Nat.strongRecOn generalizing w with
 | _ u ih =>
  have HU:=hid hu
  obtain ⟨r,hr⟩:∃ r,u % 10=r:=⟨_,rfl⟩
  have hr10:r<10:=by omega
  have hrz:(u:Int) % 10=(r:Int):=by omega
  have hrt:(u:Int).tmod 10=(r:Int):=by rw [Int.tmod_eq_emod_of_nonneg (by omega)];exact hrz
  obtain ⟨C,hC⟩:∃ C,UInt8.ofNat (48+r)=C:=⟨_,rfl⟩
  have hcv:=fun w=>conv8d r hr10 w
  rw [hC] at hcv
  by_cases h:u<10
  ·have HD:=hid (show Lib.decDigits u=[C] from by rw [← hC,Lib.decDigits_one h,← hr];congr;omega)
   have h':decide ((u:Int)<10)=true:=by simp;omega
   clear ih hu h hC
   go_enter Tryz.func52,Tryz.ntmps52
   go_wp2_with fail
   go_ret
   exact ⟨by rw [HD.out];rfl,(Below.refl _ _).alloc (Nat.le_refl _) _⟩
  ·obtain ⟨q,hq⟩:∃ q,u / 10=q:=⟨_,rfl⟩
   have HD:=hid (show Lib.decDigits u=Lib.decDigits q++[C] from by rw [Lib.decDigits,dif_neg h,hr,hq,hC])
   have h':decide ((u:Int)<10)=false:=by simp;omega
   have HIH:=hid (ih q (by omega) (by omega))
   have hqz:(u:Int) / 10=(q:Int):=by omega
   have hqt:(u:Int).tdiv 10=(q:Int):=by rw [Int.tdiv_eq_ediv_of_nonneg (by omega)];exact hqz
   have hql:q<18446744073709551616:=by omega
   obtain ⟨D,hDq⟩:∃ D,Lib.decDigits q=D:=⟨_,rfl⟩
   rw [hDq] at HD HIH
   have hk1:¬ 9223372036854775807<D.length+1:=by rw [← hDq,Lib.decDigits_length];have:=Lib.nDigits_le20 q hql;omega
   clear ih hu h hC hq hDq hr
   go_enter Tryz.func52,Tryz.ntmps52
   go_wp2_with (go_at_call 52;(with_reducible refine (HIH.out _).mono ?_);rintro e w1 ⟨rfl,hb1⟩;have HB1:=hid (((Below.refl w.heap.size w).alloc (Nat.le_refl _) _).trans (hb1.mono (by rw [World.size_alloc];omega)));clear hb1)
   go_ret
   refine ⟨?_,HB1.out⟩
   rw [HD.out]
   show Ending.returned (.string (⟨D.toArray⟩++⟨#[C]⟩))=_
   rw [ByteArray.mk_append_mk]
theorem jn_step (l:List Bs) (k:Nat) (hk:k<l.length):jn (l.take (k+1))=if k=0 then l[k] else jn (l.take k)++[32]++l[k]:=by
 rcases l with _ | ⟨x,r⟩
 ·simp at hk
 rcases k with _ | m
 ·rw [if_pos rfl];exact Lib.join_one x [32]
 ·have hm:m<r.length:=by simpa using hk
  rw [if_neg (by omega),List.take_succ_cons,List.take_succ_eq_append_getElem hm,List.take_succ_cons,jn_snoc]
  rfl
set_option maxRecDepth 100000 in
set_option maxHeartbeats 1000000 in
theorem rjoin_any (l:List Bs) (v:Value) (R:Nat→Prop) (w:World) (h:SlG kStr R w v l) (hl:l.length≤1000) (hs:∀ s ∈ l,s.length≤1000) :
  Calls Tryz.prog 53 #[v] w fun e w'=>e = .returned (.string ⟨(jn l).toArray⟩)∧Below w.heap.size w w':=by
 obtain ⟨p,c,rfl⟩:=h.slc
 have HS:=hid h;have HL:=hid hl;have HSS:=hid hs
 clear h hl hs
 go_enter Tryz.func53,Tryz.ntmps53
 go_wp2
 go_loopw [3,4] (fun ov iv wr=>∃ k:Nat,k≤l.length∧iv = .int .i64 (k:Int)∧ov = .string ⟨(jn (l.take k)).toArray⟩∧wr=w) (fun _ iv _=>l.length - (intOf iv).toNat)
 case atStart=>exact ⟨0,Nat.zero_le _,rfl,rfl,rfl⟩
 case round =>
  obtain ⟨k,hk,rfl,rfl,rfl⟩:=hrel
  by_cases hlt:k<l.length
  ·obtain ⟨b,off,rfl,hR,hcells⟩:=str_at HS.out (by omega:0<l.length)
   have hc:=hcells k hlt
   have HST:=hid (jn_step l k hlt)
   have hs1:(l[k]).length≤1000:=HSS.out _ (List.getElem_mem hlt)
   have hs2:(jn (l.take k)).length≤1001000:=Nat.le_trans (jn_len _ 1000 fun s hs=>HSS.out s (List.mem_of_mem_take hs)) (by rw [List.length_take];have:=HL.out;have:min k l.length≤1000:=(by omega);omega)
   have HLT:=hid hlt
   obtain ⟨J,hJ⟩:∃ J,jn (l.take k)=J:=⟨_,rfl⟩
   rw [hJ] at HST hs2
   rw [hJ]
   have hJ0:k=0→J=[]:=fun h=>by subst h;exact hJ.symm
   clear hcells hR hJ
   generalize l[k]=x at *
   have hk1:¬ 9223372036854775807<J.length+1:=by omega
   have hk2:¬ 9223372036854775807<J.length+1+x.length:=by omega
   have hk3:¬ 9223372036854775807<J.length+x.length:=by omega
   by_cases h0:k=0
   ·have g0:decide ((0:Int)<(k:Int))=false:=by simp;omega
    have HJ0:=hid (show jn (l.take (k+1))=x from by rw [HST.out,if_pos h0])
    have g0n:¬ (0<k):=by omega
    obtain rfl:=hJ0 h0
    clear hs1 hs2 h0
    go_wp2_with fail
    go_roundw
    case rel=>exact ⟨k+1,HLT.out,by rw [show ((k+1:Nat):Int)=(k:Int)+1 from by omega],by rw [HJ0.out,ByteArray.mk_append_mk];simp,trivial⟩
    case measure=>have:=HLT.out;show l.length - ((k:Int)+1).toNat<l.length - ((k:Int)).toNat;omega
   ·have g0:decide ((0:Int)<(k:Int))=true:=by simp;omega
    have HJ0:=hid (show jn (l.take (k+1))=J++[32]++x from by rw [HST.out,if_neg h0])
    have g0n:0<k:=by omega
    clear hs1 hs2 hJ0 h0
    go_wp2_with fail
    go_roundw
    case rel =>
     refine ⟨k+1,HLT.out,by rw [wrap_next HLT.out HS.out.len],?_,trivial⟩
     rw [HJ0.out,ByteArray.mk_append_mk,ByteArray.mk_append_mk]
    case measure=>exact meas_next HLT.out HS.out.len
  ·obtain rfl:k=l.length:=by omega
   clear hlt
   go_wp2_with fail
   go_ret
   exact ⟨by rw [List.take_length];rfl,Below.refl _ _⟩
set_option maxRecDepth 100000 in
set_option maxHeartbeats 2000000 in
theorem rargs_any (l:List Ag) (v:Value) (w:World) (h:SlG kAg (·<w.heap.size) w v l) (hl:l.length≤100000) (hn:∀ a ∈ l,a.num<18446744073709551616) :
  Calls Tryz.prog 97 #[v] w fun e w'=>∃ v',e = .returned v'∧GA kStr w.heap.size 9 w' v' (l.map argT)∧Below w.heap.size w w':=by
 obtain ⟨p,c,rfl⟩:=h.slc
 have HS:=hid h;have HL:=hid hl;have HNU:=hid hn
 clear h hl hn
 go_enter Tryz.func97,Tryz.ntmps97
 go_wp2
 go_loopw [3,4] (fun ov iv wr=>∃ k:Nat,k≤l.length∧iv = .int .i64 (k:Int)∧GA kStr w.heap.size 9 wr ov ((l.take k).map argT)∧Below w.heap.size w wr) (fun _ iv _=>l.length - (intOf iv).toNat)
 case atStart=>exact ⟨0,Nat.zero_le _,rfl,GA.nil _ _ _ _,Below.refl _ _⟩
 case round =>
  obtain ⟨k,hk,rfl,hga,hbr⟩:=hrel
  obtain ⟨T,hT⟩:∃ T,(l.take k).map argT=T:=⟨_,rfl⟩
  rw [hT] at hga
  have HTD:=hid hT
  clear hT
  obtain ⟨po,co,rfl⟩:=hga.slc
  by_cases hlt:k<l.length
  ·obtain ⟨b,off,rfl,hR,hcells⟩:=ag_at HS.out (by omega:0<l.length)
   obtain ⟨c0,c1⟩:=hcells k hlt
   have d0:=(hbr.cell (p:=⟨b,off+k*2,none⟩) hR).trans c0
   have d1:=(hbr.cell (p:=⟨b,off+k*2+1,none⟩) hR).trans c1
   have HSN:=hid ((args_snoc l k hlt).trans (by rw [HTD.out]))
   have HNK:=hid (HNU.out l[k] (List.getElem_mem hlt))
   have HCL:=hid (show T.length≤100000 from by rw [← HTD.out,List.length_map,List.length_take];have:=HL.out;omega)
   have HLT:=hid hlt;have HBO:=hid hbr;have HGO:=hid hga
   clear hcells c0 c1 hR hbr hga HTD
   generalize l[k]=x at *
   by_cases h0:x.nm=[]
   ·have t4:x.nm.isEmpty=true:=by rw [h0];rfl
    have HA:=hid (show argT x=Lib.decDigits x.num from by unfold argT;rw [if_pos h0])
    clear h0
    go_wp2_with (first
     | (go_at_call 52;(refine (rnum_any x.num HNK.out _).mono ?_);rintro e w1 ⟨rfl,hb1⟩;have HB1:=hid (HBO.out.trans (hb1.mono HBO.out.size));have HG1:=hid (HGO.out.keep hb1);clear hb1)
     | (at_builtin;refine wpList_push (K:=kStr) (x:=Lib.decDigits x.num) (cs:=[.string ⟨(Lib.decDigits x.num).toArray⟩]) (te:=9) rfl _ _ 22 rfl Tryz.underlying22 _ 16 info_strG rfl HG1.out rfl rfl rfl (by have:=HCL.out;omega) (by have:=HCL.out;unfold maxLen;omega) HB1.out.size ?_;intro v5 w5 hg5 hgr5 hm5;have HG5:=hid hg5;have HB5:=hid (below_push HG1.out HB1.out hgr5 HB1.out.size);clear hg5 hgr5 hm5))
    go_roundw
    case rel=>exact ⟨k+1,HLT.out,by rw [wrap_next HLT.out HS.out.len],by rw [HSN.out,HA.out];exact HG5.out,HB5.out⟩
    case measure=>exact meas_next HLT.out HS.out.len
   ·have t4:x.nm.isEmpty=false:=by simpa using h0
    have HA:=hid (show argT x=x.nm from by unfold argT;rw [if_neg h0])
    clear h0
    go_wp2_with (at_builtin;refine wpList_push (K:=kStr) (x:=x.nm) (cs:=[.string ⟨x.nm.toArray⟩]) (te:=9) rfl _ _ 22 rfl Tryz.underlying22 _ 16 info_strG rfl HGO.out rfl rfl rfl (by have:=HCL.out;omega) (by have:=HCL.out;unfold maxLen;omega) HBO.out.size ?_;intro v5 w5 hg5 hgr5 hm5;have HG5:=hid hg5;have HB5:=hid (below_push HGO.out HBO.out hgr5 HBO.out.size);clear hg5 hgr5 hm5)
    go_roundw
    case rel=>exact ⟨k+1,HLT.out,by rw [wrap_next HLT.out HS.out.len],by rw [HSN.out,HA.out];exact HG5.out,HB5.out⟩
    case measure=>exact meas_next HLT.out HS.out.len
  ·obtain rfl:k=l.length:=by omega
   have HBR:=hid hbr;have HGA:=hid hga
   clear hlt hbr hga
   go_wp2_with fail
   go_ret
   have hga:=HGA.out
   have hT:=HTD.out
   rw [List.take_length] at hT
   subst hT
   exact ⟨_,rfl,hga,HBR.out⟩
theorem lit_at (w:World) (te:TypeId) (xs:List Bs) (k:Nat) (hk:k<xs.length):(w.alloc (.cells (xs.map sv).toArray te)).cell? ⟨w.heap.size,k,none⟩=some (.string ⟨xs[k].toArray⟩):=by
 have:=(BxL.new te w (xs.map sv)).at k (v:=sv xs[k]) (by rw [List.getElem?_map,List.getElem?_eq_getElem hk];rfl)
 exact this
theorem take_no {l:List Bs} {s:Bs} {k:Nat} (hk:k<l.length) (h:(l.take k).contains s=false) (hx:l[k] ≠ s):(l.take (k+1)).contains s=false:=by
 rw [List.take_succ_eq_append_getElem hk]
 rw [← Bool.not_eq_true,List.contains_iff_mem] at h ⊢
 intro hm
 rcases List.mem_append.1 hm with hm | hm
 ·exact h hm
 ·exact hx (List.mem_singleton.1 hm).symm
theorem rnames_any (w:World):Calls Tryz.prog 139 #[] w fun e w'=>e = .returned (.slice (some ⟨w.heap.size,0,none⟩) 20 20)∧w'=w.alloc (.cells (opL.map sv).toArray 9):=by
 go_enter Tryz.func139,Tryz.ntmps139
 go_wp2
 go_ret
 exact ⟨rfl,rfl⟩
set_option maxRecDepth 100000 in
set_option maxHeartbeats 2000000 in
theorem rof_any (s:Bs) (w:World) (E:Int) (hE:(if opB s then 0 else 6)=E):Calls Tryz.prog 210 #[.string ⟨s.toArray⟩] w fun e w'=>(∃ r,e = .returned (.tuple #[.int .u8 r,.int .i64 E]))∧Below w.heap.size w w':=by
 have HEO:=hid hE
 clear hE
 go_enter Tryz.func210,Tryz.ntmps210
 go_upto_region 3 with (go_at_call 139;(refine (rnames_any _).mono ?_);rintro e w1 ⟨rfl,hw1⟩;have HW:=hid hw1;clear hw1)
 go_loopw [5] (fun iv wr=>∃ k:Nat,k≤20∧iv = .int .i64 (k:Int)∧(opL.take k).contains s=false∧wr=w1) (fun iv _=>20 - (intOf iv).toNat)
 case atStart=>exact ⟨0,Nat.zero_le _,rfl,rfl,rfl⟩
 case round =>
  obtain ⟨k,hk,rfl,hno,rfl⟩:=hrel
  by_cases hlt:k<20
  ·have hko:k<opL.length:=hlt
   have hc:wr.cell? ⟨w.heap.size,k,none⟩=some (.string ⟨opL[k].toArray⟩):=by rw [HW.out];exact lit_at w 9 opL k hko
   have HLT:=hid hlt;have HNO:=hid hno
   have HB:=hid (show Below w.heap.size w wr from by rw [HW.out];exact (Below.refl _ _).alloc (Nat.le_refl _) _)
   have HTN:=hid (fun hx=>take_no hko hno hx)
   have HIN:=hid (List.getElem_mem hko)
   clear hno
   generalize opL[k]=x at *
   by_cases hx:x=s
   ·have HO:=hid (show opB s=true from by unfold opB;rw [List.contains_iff_mem,← hx];exact HIN.out)
    have t1:((⟨x.toArray⟩:ByteArray).toList == (⟨s.toArray⟩:ByteArray).toList)=true:=(str_eqL x s).trans (by simp [hx])
    have t2:(x == s)=true:=by simp [hx]
    clear hx
    go_wp2_with fail
    go_ret2
    obtain rfl:E=0:=by rw [← HEO.out,if_pos HO.out]
    exact ⟨⟨_,rfl⟩,HB.out⟩
   ·have t1:((⟨x.toArray⟩:ByteArray).toList == (⟨s.toArray⟩:ByteArray).toList)=false:=(str_eqL x s).trans (by simp [hx])
    have t2:(x == s)=false:=by simp [hx]
    have HX:=hid hx
    clear hx
    go_wp2_with fail
    go_roundw
    case rel=>exact ⟨k+1,HLT.out,by rw [show ((k+1:Nat):Int)=(k:Int)+1 from by omega],HTN.out HX.out,trivial⟩
    case measure=>have:=HLT.out;show 20 - ((k:Int)+1).toNat<20 - ((k:Int)).toNat;omega
  ·obtain rfl:k=20:=by omega
   have HO:=hid (show opB s=false from hno)
   have HB:=hid (show Below w.heap.size w wr from by rw [HW.out];exact (Below.refl _ _).alloc (Nat.le_refl _) _)
   clear hlt hno
   go_wp2_with fail
   go_ret2
   obtain rfl:E=6:=by rw [← HEO.out,if_neg (by rw [HO.out];decide)]
   exact ⟨⟨_,rfl⟩,HB.out⟩
set_option maxRecDepth 100000 in
set_option maxHeartbeats 2000000 in
theorem rkeyword_any (s:Bs) (w:World):Calls Tryz.prog 172 #[.string ⟨s.toArray⟩] w fun e w'=>e = .returned (.bool (kwB s || opB s))∧Below w.heap.size w w':=by
 obtain ⟨R,hR⟩:∃ R,(kwB s || opB s)=R:=⟨_,rfl⟩
 obtain ⟨E,hE⟩:∃ E:Int,(if opB s then 0 else 6)=E:=⟨_,rfl⟩
 rw [hR]
 have HR:=hid hR;have HE:=hid hE
 have HEO:=hid (show opB s=(E == 0) from by rw [← hE];cases opB s <;> rfl)
 clear hR hE
 go_enter Tryz.func172,Tryz.ntmps172
 go_upto_region 3 with fail
 obtain ⟨w1,hw1⟩:∃ W,w.alloc (.cells (kwL.map sv).toArray 9)=W:=⟨_,rfl⟩
 have HW:=hid hw1
 have HB:=hid (show Below w.heap.size w w1 from by rw [← hw1];exact (Below.refl _ _).alloc (Nat.le_refl _) _)
 have hw2:w.alloc (.cells #[.string ⟨#[119,105,100,116,104]⟩,.string ⟨#[99,104,97,110]⟩,.string ⟨#[97,114,114,97,121]⟩,.string ⟨#[102,117,110,99]⟩,.string ⟨#[109,97,105,110]⟩,.string ⟨#[101,110,100]⟩,.string ⟨#[108,111,97,100]⟩,.string ⟨#[115,116,111,114,101]⟩,.string ⟨#[99,97,108,108]⟩,.string ⟨#[105,110]⟩,.string ⟨#[111,117,116]⟩,.string ⟨#[114,101,108,101,97,115,101]⟩,.string ⟨#[106,117,109,112]⟩,.string ⟨#[105,102]⟩,.string ⟨#[104,97,108,116]⟩,.string ⟨#[114,101,116]⟩] 9)=w1:=hw1
 rw [hw2]
 clear hw1 hw2
 go_loopw [4] (fun iv wr=>∃ k:Nat,k≤16∧iv = .int .i64 (k:Int)∧(kwL.take k).contains s=false∧wr=w1) (fun iv _=>16 - (intOf iv).toNat)
 case atStart=>exact ⟨0,Nat.zero_le _,rfl,rfl,rfl⟩
 case round =>
  obtain ⟨k,hk,rfl,hno,rfl⟩:=hrel
  by_cases hlt:k<16
  ·have hko:k<kwL.length:=hlt
   have hc:wr.cell? ⟨w.heap.size,k,none⟩=some (.string ⟨kwL[k].toArray⟩):=by rw [← HW.out];exact lit_at w 9 kwL k hko
   have HLT:=hid hlt;have HNO:=hid hno
   have HTN:=hid (fun hx=>take_no hko hno hx)
   have HIN:=hid (List.getElem_mem hko)
   clear hno
   generalize kwL[k]=x at *
   by_cases hx:x=s
   ·have HO:=hid (show kwB s=true from by unfold kwB;rw [List.contains_iff_mem,← hx];exact HIN.out)
    have t1:((⟨s.toArray⟩:ByteArray).toList == (⟨x.toArray⟩:ByteArray).toList)=true:=(str_eqL s x).trans (by simp [hx])
    have t2:(s == x)=true:=by simp [hx]
    clear hx
    go_wp2_with fail
    go_ret
    obtain rfl:R=true:=by rw [← HR.out,HO.out];rfl
    exact ⟨rfl,HB.out⟩
   ·have t1:((⟨s.toArray⟩:ByteArray).toList == (⟨x.toArray⟩:ByteArray).toList)=false:=(str_eqL s x).trans (by simpa using fun h=>hx h.symm)
    have t2:(s == x)=false:=by rw [beq_eq_false_iff_ne];exact fun h=>hx h.symm
    have HX:=hid hx
    clear hx
    go_wp2_with fail
    go_roundw
    case rel=>exact ⟨k+1,HLT.out,by rw [show ((k+1:Nat):Int)=(k:Int)+1 from by omega],HTN.out HX.out,trivial⟩
    case measure=>have:=HLT.out;show 16 - ((k:Int)+1).toNat<16 - ((k:Int)).toNat;omega
  ·obtain rfl:k=16:=by omega
   have HO:=hid (show kwB s=false from hno)
   clear hlt hno
   go_wp2_with (go_at_call 210;(refine (rof_any s _ E HE.out).mono ?_);rintro e w2 ⟨⟨r,rfl⟩,hb2⟩;have HB2:=hid (HB.out.trans (hb2.mono HB.out.size));clear hb2)
   go_ret
   refine ⟨?_,HB2.out⟩
   rw [← HR.out,HO.out,HEO.out]
   rfl
set_option maxRecDepth 100000 in
theorem rnamed_any (s:Bs) (w:World) (hs:s.length≤140737488355328):Calls Tryz.prog 131 #[.string ⟨s.toArray⟩] w fun e w'=>e = .returned (.bool (namedB s))∧Below w.heap.size w w':=by
 have HS:=hid hs
 have HNB:=hid (show namedB s=(nameB s && !(kwB s || opB s)) from by unfold namedB;cases nameB s <;> cases opB s <;> cases kwB s <;> rfl)
 obtain ⟨bn,hbn⟩:∃ b,nameB s=b:=⟨_,rfl⟩
 obtain ⟨bk,hbk⟩:∃ b,(kwB s || opB s)=b:=⟨_,rfl⟩
 rw [hbn,hbk] at HNB
 have HBN:=hid hbn;have HBK:=hid hbk
 clear hs hbn hbk
 have HC1:=hid (fun W=>rname_any s W HS.out)
 have HC2:=hid (fun W=>rkeyword_any s W)
 go_enter Tryz.func131,Tryz.ntmps131
 cases bn <;> cases bk
 all_goals (
  go_wp2_with (first
   | (go_at_call 171;refine (HC1.out _).mono ?_;rw [HBN.out];rintro e w2 ⟨rfl,rfl⟩)
   | (go_at_call 172;refine (HC2.out _).mono ?_;rw [HBK.out];rintro e w3 ⟨rfl,hb3⟩;have HB3:=hid hb3;clear hb3))
  go_ret
  exact ⟨by rw [HNB.out];rfl,by first | exact HB3.out | exact Below.refl _ _⟩)
set_option maxRecDepth 100000 in
set_option maxHeartbeats 2000000 in
theorem rarity_any (o:Nat) (ho:2≤o∧o≤20) (w:World):Calls Tryz.prog 138 #[.int .u8 (o:Int)] w fun e w'=>e = .returned (.tuple #[.int .i64 (arityM o:Int),.int .i64 0])∧w'=w:=by
 have g1:decide ((21:Int)<(o:Int))=false:=by simp;omega
 have g2:decide ((o:Int)≤1)=false:=by simp;omega
 have g4:((o:Int) == 21)=false:=by simp;omega
 by_cases h:o≤3
 ·have g3:decide ((o:Int)≤3)=true:=by simp;omega
  have HA:=hid (show arityM o=1 from by unfold arityM;rw [if_neg (by omega),if_pos h])
  clear h ho
  go_enter Tryz.func138,Tryz.ntmps138
  go_wp2_with fail
  go_ret2
  exact ⟨by rw [HA.out];rfl,rfl⟩
 ·have g3:decide ((o:Int)≤3)=false:=by simp;omega
  have HA:=hid (show arityM o=2 from by unfold arityM;rw [if_neg (by omega),if_neg h,if_neg (by omega)])
  clear h ho
  go_enter Tryz.func138,Tryz.ntmps138
  go_wp2_with fail
  go_ret2
  exact ⟨by rw [HA.out];rfl,rfl⟩
set_option maxRecDepth 100000 in
set_option maxHeartbeats 2000000 in
theorem ropname_any (o:Nat) (ho:2≤o∧o≤20) (w:World):Calls Tryz.prog 98 #[.int .u8 (o:Int)] w fun e w'=>e = .returned (.tuple #[.string ⟨(opT o).toArray⟩,.int .i64 0])∧Below w.heap.size w w':=by
 have g1:decide ((21:Int)<(o:Int))=false:=by simp;omega
 have g2:decide ((o:Int)<2)=false:=by simp;omega
 obtain ⟨k,hk⟩:∃ k,o=k+2:=⟨o - 2,by omega⟩
 have hk20:k<opL.length:=by show k<20;omega
 have g3:(o:Int) - 2=(k:Int):=by omega
 have g4:k<20:=hk20
 have hc:∀ w:World,(w.alloc (.cells (opL.map sv).toArray 9)).cell? ⟨w.heap.size,k,none⟩=some (.string ⟨opL[k].toArray⟩):=fun w=>lit_at w 9 opL k hk20
 have HT:=hid (show opT o=opL[k] from by unfold opT;rw [hk,List.getD_eq_getElem?_getD,Nat.add_sub_cancel,List.getElem?_eq_getElem hk20];rfl)
 generalize opL[k]=x at *
 have hgk:IntKind.u8.wrap ((o:Int) - 2)=(k:Int):=by rw [g3];exact IntWalk.u8_in _ (by omega)
 clear hk ho
 go_enter Tryz.func98,Tryz.ntmps98
 go_wp2_with (go_at_call 139;(refine (rnames_any _).mono ?_);rintro e w1 ⟨rfl,hw1⟩;have hc1:w1.cell? ⟨w.heap.size,k,none⟩=some (.string ⟨x.toArray⟩):=(by rw [hw1];exact hc w);have HB1:=hid (show Below w.heap.size w w1 from by rw [hw1];exact (Below.refl _ _).alloc (Nat.le_refl _) _);clear hw1)
 go_ret2
 exact ⟨by rw [HT.out];rfl,HB1.out⟩
set_option maxRecDepth 100000 in
theorem rfields_0 (w:World):Calls Tryz.prog 137 #[.int .u8 0] w fun e w'=>e = .returned (.tuple #[.agg #[.bool true,.bool false,.int .i64 1],.bool true])∧Below w.heap.size w w':=by
 go_enter Tryz.func137,Tryz.ntmps137
 go_wp2_with fail
 refine bodyPost_ret (v := .tuple #[.agg #[.bool true,.bool false,.int .i64 1],.bool true]) (by simp [results,Tryz.results137,go_sem]) rfl ?_
 exact ⟨rfl,(Below.refl _ _).alloc (Nat.le_refl _) _⟩
set_option maxRecDepth 100000 in
theorem rfields_1 (w:World):Calls Tryz.prog 137 #[.int .u8 1] w fun e w'=>e = .returned (.tuple #[.agg #[.bool true,.bool false,.int .i64 (-1)],.bool true])∧Below w.heap.size w w':=by
 go_enter Tryz.func137,Tryz.ntmps137
 go_wp2_with fail
 refine bodyPost_ret (v := .tuple #[.agg #[.bool true,.bool false,.int .i64 (-1)],.bool true]) (by simp [results,Tryz.results137,go_sem]) rfl ?_
 exact ⟨rfl,(Below.refl _ _).alloc (Nat.le_refl _) _⟩
set_option maxRecDepth 100000 in
theorem rfields_2 (w:World):Calls Tryz.prog 137 #[.int .u8 2] w fun e w'=>e = .returned (.tuple #[.agg #[.bool true,.bool true,.int .i64 1],.bool true])∧Below w.heap.size w w':=by
 go_enter Tryz.func137,Tryz.ntmps137
 go_wp2_with fail
 refine bodyPost_ret (v := .tuple #[.agg #[.bool true,.bool true,.int .i64 1],.bool true]) (by simp [results,Tryz.results137,go_sem]) rfl ?_
 exact ⟨rfl,(Below.refl _ _).alloc (Nat.le_refl _) _⟩
set_option maxRecDepth 100000 in
theorem rfields_3 (w:World):Calls Tryz.prog 137 #[.int .u8 3] w fun e w'=>e = .returned (.tuple #[.agg #[.bool false,.bool true,.int .i64 2],.bool true])∧Below w.heap.size w w':=by
 go_enter Tryz.func137,Tryz.ntmps137
 go_wp2_with fail
 refine bodyPost_ret (v := .tuple #[.agg #[.bool false,.bool true,.int .i64 2],.bool true]) (by simp [results,Tryz.results137,go_sem]) rfl ?_
 exact ⟨rfl,(Below.refl _ _).alloc (Nat.le_refl _) _⟩
set_option maxRecDepth 100000 in
theorem rfields_4 (w:World):Calls Tryz.prog 137 #[.int .u8 4] w fun e w'=>e = .returned (.tuple #[.agg #[.bool true,.bool true,.int .i64 (-1)],.bool true])∧Below w.heap.size w w':=by
 go_enter Tryz.func137,Tryz.ntmps137
 go_wp2_with fail
 refine bodyPost_ret (v := .tuple #[.agg #[.bool true,.bool true,.int .i64 (-1)],.bool true]) (by simp [results,Tryz.results137,go_sem]) rfl ?_
 exact ⟨rfl,(Below.refl _ _).alloc (Nat.le_refl _) _⟩
set_option maxRecDepth 100000 in
theorem rfields_5 (w:World):Calls Tryz.prog 137 #[.int .u8 5] w fun e w'=>e = .returned (.tuple #[.agg #[.bool true,.bool true,.int .i64 0],.bool true])∧Below w.heap.size w w':=by
 go_enter Tryz.func137,Tryz.ntmps137
 go_wp2_with fail
 refine bodyPost_ret (v := .tuple #[.agg #[.bool true,.bool true,.int .i64 0],.bool true]) (by simp [results,Tryz.results137,go_sem]) rfl ?_
 exact ⟨rfl,(Below.refl _ _).alloc (Nat.le_refl _) _⟩
set_option maxRecDepth 100000 in
theorem rfields_6 (w:World):Calls Tryz.prog 137 #[.int .u8 6] w fun e w'=>e = .returned (.tuple #[.agg #[.bool false,.bool true,.int .i64 1],.bool true])∧Below w.heap.size w w':=by
 go_enter Tryz.func137,Tryz.ntmps137
 go_wp2_with fail
 refine bodyPost_ret (v := .tuple #[.agg #[.bool false,.bool true,.int .i64 1],.bool true]) (by simp [results,Tryz.results137,go_sem]) rfl ?_
 exact ⟨rfl,(Below.refl _ _).alloc (Nat.le_refl _) _⟩
set_option maxRecDepth 100000 in
theorem rfields_7 (w:World):Calls Tryz.prog 137 #[.int .u8 7] w fun e w'=>e = .returned (.tuple #[.agg #[.bool true,.bool true,.int .i64 1],.bool true])∧Below w.heap.size w w':=by
 go_enter Tryz.func137,Tryz.ntmps137
 go_wp2_with fail
 refine bodyPost_ret (v := .tuple #[.agg #[.bool true,.bool true,.int .i64 1],.bool true]) (by simp [results,Tryz.results137,go_sem]) rfl ?_
 exact ⟨rfl,(Below.refl _ _).alloc (Nat.le_refl _) _⟩
set_option maxRecDepth 100000 in
theorem rfields_8 (w:World):Calls Tryz.prog 137 #[.int .u8 8] w fun e w'=>e = .returned (.tuple #[.agg #[.bool false,.bool true,.int .i64 0],.bool true])∧Below w.heap.size w w':=by
 go_enter Tryz.func137,Tryz.ntmps137
 go_wp2_with fail
 refine bodyPost_ret (v := .tuple #[.agg #[.bool false,.bool true,.int .i64 0],.bool true]) (by simp [results,Tryz.results137,go_sem]) rfl ?_
 exact ⟨rfl,(Below.refl _ _).alloc (Nat.le_refl _) _⟩
set_option maxRecDepth 100000 in
theorem rfields_9 (w:World):Calls Tryz.prog 137 #[.int .u8 9] w fun e w'=>e = .returned (.tuple #[.agg #[.bool false,.bool true,.int .i64 1],.bool true])∧Below w.heap.size w w':=by
 go_enter Tryz.func137,Tryz.ntmps137
 go_wp2_with fail
 refine bodyPost_ret (v := .tuple #[.agg #[.bool false,.bool true,.int .i64 1],.bool true]) (by simp [results,Tryz.results137,go_sem]) rfl ?_
 exact ⟨rfl,(Below.refl _ _).alloc (Nat.le_refl _) _⟩
set_option maxRecDepth 100000 in
theorem rfields_10 (w:World):Calls Tryz.prog 137 #[.int .u8 10] w fun e w'=>e = .returned (.tuple #[.agg #[.bool false,.bool true,.int .i64 0],.bool true])∧Below w.heap.size w w':=by
 go_enter Tryz.func137,Tryz.ntmps137
 go_wp2_with fail
 refine bodyPost_ret (v := .tuple #[.agg #[.bool false,.bool true,.int .i64 0],.bool true]) (by simp [results,Tryz.results137,go_sem]) rfl ?_
 exact ⟨rfl,(Below.refl _ _).alloc (Nat.le_refl _) _⟩
set_option maxRecDepth 100000 in
theorem rfields_11 (w:World):Calls Tryz.prog 137 #[.int .u8 11] w fun e w'=>e = .returned (.tuple #[.agg #[.bool false,.bool false,.int .i64 0],.bool true])∧Below w.heap.size w w':=by
 go_enter Tryz.func137,Tryz.ntmps137
 go_wp2_with fail
 refine bodyPost_ret (v := .tuple #[.agg #[.bool false,.bool false,.int .i64 0],.bool true]) (by simp [results,Tryz.results137,go_sem]) rfl ?_
 exact ⟨rfl,(Below.refl _ _).alloc (Nat.le_refl _) _⟩
set_option maxRecDepth 100000 in
theorem rfields_12 (w:World):Calls Tryz.prog 137 #[.int .u8 12] w fun e w'=>e = .returned (.tuple #[.agg #[.bool false,.bool false,.int .i64 1],.bool true])∧Below w.heap.size w w':=by
 go_enter Tryz.func137,Tryz.ntmps137
 go_wp2_with fail
 refine bodyPost_ret (v := .tuple #[.agg #[.bool false,.bool false,.int .i64 1],.bool true]) (by simp [results,Tryz.results137,go_sem]) rfl ?_
 exact ⟨rfl,(Below.refl _ _).alloc (Nat.le_refl _) _⟩
set_option maxRecDepth 100000 in
theorem rfields_x (kind:Nat) (hk:13≤kind) (w:World):Calls Tryz.prog 137 #[.int .u8 (kind:Int)] w fun e w'=>e = .returned (.tuple #[.agg #[.bool false,.bool false,.int .i64 0],.bool false])∧Below w.heap.size w w':=by
 have t0:((kind:Int) == 0)=false:=by simp;omega
 have t1:((kind:Int) == 1)=false:=by simp;omega
 have t2:((kind:Int) == 2)=false:=by simp;omega
 have t3:((kind:Int) == 3)=false:=by simp;omega
 have t4:((kind:Int) == 4)=false:=by simp;omega
 have t5:((kind:Int) == 5)=false:=by simp;omega
 have t6:((kind:Int) == 6)=false:=by simp;omega
 have t7:((kind:Int) == 7)=false:=by simp;omega
 have t8:((kind:Int) == 8)=false:=by simp;omega
 have t9:((kind:Int) == 9)=false:=by simp;omega
 have t10:((kind:Int) == 10)=false:=by simp;omega
 have t11:((kind:Int) == 11)=false:=by simp;omega
 have t12:((kind:Int) == 12)=false:=by simp;omega
 clear hk
 go_enter Tryz.func137,Tryz.ntmps137
 go_wp2_with fail
 refine bodyPost_ret (v := .tuple #[.agg #[.bool false,.bool false,.int .i64 0],.bool false]) (by simp [results,Tryz.results137,go_sem]) rfl ?_
 exact ⟨rfl,(Below.refl _ _).alloc (Nat.le_refl _) _⟩
end Go.Proofs.YtoofbgoeipijcaaGreatDoor
