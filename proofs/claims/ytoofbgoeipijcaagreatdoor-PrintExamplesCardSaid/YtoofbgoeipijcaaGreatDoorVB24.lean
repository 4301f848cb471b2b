/-
 A part.
-/
import Derived.Test.YtoofbgoeipijcaaGreatDoorVB23
namespace Go.Proofs.YtoofbgoeipijcaaGreatDoor
set_option maxRecDepth 100000
set_option maxHeartbeats 2000000
set_option linter.all false
open Go.RowKit Go.Shelf
attribute [local go_sem] Oper.semAt_some
theorem lit_at (w:World) (te:TypeId) (xs:List Bs) (k:Nat) (hk:k<xs.length):(w.alloc (.cells (xs.map sv).toArray te)).cell? ⟨w.heap.size,k,none⟩=some (.string ⟨xs[k].toArray⟩):=by
 have:=(BxL.new te w (xs.map sv)).at k (v:=sv xs[k]) (by rw [List.getElem?_map,List.getElem?_eq_getElem hk];rfl)
 exact this
theorem take_no {l:List Bs} {s:Bs} {k:Nat} (hk:k<l.length) (h:(l.take k).contains s=false) (hx:l[k] ≠ s):(l.take (k+1)).contains s=false:=by
 rw [List.take_succ_eq_append_getElem hk]
 rw [<- Bool.not_eq_true,List.contains_iff_mem] at h ⊢
 intro hm
 rcases List.mem_append.1 hm with hm | hm
 ·exact h hm
 ·exact hx (List.mem_singleton.1 hm).symm
theorem rnames_any (w:World):Calls Tryz.prog 139 #[] w fun e w'=>e=.returned (.slice (some ⟨w.heap.size,0,none⟩) 20 20)/\w'=w.alloc (.cells (opL.map sv).toArray 9):=by
 go_enter Tryz.func139,Tryz.ntmps139
 go_wp2
 go_ret
 exact ⟨rfl,rfl⟩
theorem rof_any (s:Bs) (w:World) (E:Int) (hE:(if opB s then 0 else 6)=E):Calls Tryz.prog 210 #[.string ⟨s.toArray⟩] w fun e w'=>(∃ r,e=.returned (.tuple #[.int .u8 r,.int .i64 E]))/\Below w.heap.size w w':=by
 have HEO:=hid hE
 clear hE
 go_enter Tryz.func210,Tryz.ntmps210
 go_upto_region 3 with (go_at_call 139;(refine (rnames_any _).mono ?_);rintro e w1 ⟨rfl,hw1⟩;have HW:=hid hw1;clear hw1)
 go_loopw [5] (fun iv wr=>∃ k:Nat,k<=20/\iv=.int .i64 (k:Int)/\(opL.take k).contains s=false/\wr=w1) (fun iv _=>20 - (intOf iv).toNat)
 case atStart=>exact ⟨0,Nat.zero_le _,rfl,rfl,rfl⟩
 case round =>
  obtain ⟨k,hk,rfl,hno,rfl⟩:=hrel
  by_cases hlt:k<20
  ·have hko:k<opL.length:=hlt
   have hc:wr.cell? ⟨w.heap.size,k,none⟩=some (.string ⟨opL[k].toArray⟩):=by rw [HW.out];exact lit_at w 9 opL k hko
   have HLT:=hid hlt;have HNO:=hid hno
   have HB:=hid (show Below w.heap.size w wr from by rw [HW.out];exact bA)
   have HTN:=hid (fun hx=>take_no hko hno hx)
   have HIN:=hid (List.getElem_mem hko)
   clear hno
   generalize opL[k]=x at *
   by_cases hx:x=s
   ·have HO:=hid (show opB s=true from by unfold opB;rw [List.contains_iff_mem,<- hx];exact HIN.out)
    have t1:((⟨x.toArray⟩:ByteArray).toList == (⟨s.toArray⟩:ByteArray).toList)=true:=(str_eqL x s).trans (by simp [hx])
    have t2:(x == s)=true:=by simp [hx]
    clear hx
    go_wp2_with fail
    go_ret2
    obtain rfl:E=0:=by rw [<- HEO.out,if_pos HO.out]
    exact ⟨⟨_,rfl⟩,HB.out⟩
   ·have t1:((⟨x.toArray⟩:ByteArray).toList == (⟨s.toArray⟩:ByteArray).toList)=false:=(str_eqL x s).trans (by simp [hx])
    have t2:(x == s)=false:=by simp [hx]
    have HX:=hid hx
    clear hx
    go_wp2_with fail
    go_roundw
    case rel=>exact ⟨k+1,HLT.out,by rw [show ((k+1:Nat):Int)=(k:Int)+1 from by omega],HTN.out HX.out,trivial⟩
    case measure=>have:=HLT.out;show 20 - ((k:Int)+1).toNat<20 - ((k:Int)).toNat;omega
  ·obtain rfl:k=20:=by omega
   have HO:=hid (show opB s=false from hno)
   have HB:=hid (show Below w.heap.size w wr from by rw [HW.out];exact bA)
   clear hlt hno
   go_wp2_with fail
   go_ret2
   obtain rfl:E=6:=by rw [<- HEO.out,if_neg (by rw [HO.out];decide)]
   exact ⟨⟨_,rfl⟩,HB.out⟩
theorem rkeyword_any (s:Bs) (w:World):Calls Tryz.prog 172 #[.string ⟨s.toArray⟩] w fun e w'=>e=.returned (.bool (kwB s || opB s))/\Below w.heap.size w w':=by
 obtain ⟨R,hR⟩:∃ R,(kwB s || opB s)=R:=⟨_,rfl⟩
 obtain ⟨E,hE⟩:∃ E:Int,(if opB s then 0 else 6)=E:=⟨_,rfl⟩
 rw [hR]
 have HR:=hid hR;have HE:=hid hE
 have HEO:=hid (show opB s=(E == 0) from by rw [<- hE];cases opB s <;> rfl)
 clear hR hE
 go_enter Tryz.func172,Tryz.ntmps172
 go_upto_region 3 with fail
 obtain ⟨w1,hw1⟩:∃ W,w.alloc (.cells (kwL.map sv).toArray 9)=W:=⟨_,rfl⟩
 have HW:=hid hw1
 have HB:=hid (show Below w.heap.size w w1 from by rw [<- hw1];exact bA)
 have hw2:w.alloc (.cells #[.string ⟨#[119,105,100,116,104]⟩,.string ⟨#[99,104,97,110]⟩,.string ⟨#[97,114,114,97,121]⟩,.string ⟨#[102,117,110,99]⟩,.string ⟨#[109,97,105,110]⟩,.string ⟨#[101,110,100]⟩,.string ⟨#[108,111,97,100]⟩,.string ⟨#[115,116,111,114,101]⟩,.string ⟨#[99,97,108,108]⟩,.string ⟨#[105,110]⟩,.string ⟨#[111,117,116]⟩,.string ⟨#[114,101,108,101,97,115,101]⟩,.string ⟨#[106,117,109,112]⟩,.string ⟨#[105,102]⟩,.string ⟨#[104,97,108,116]⟩,.string ⟨#[114,101,116]⟩] 9)=w1:=hw1
 rw [hw2]
 clear hw1 hw2
 go_loopw [4] (fun iv wr=>∃ k:Nat,k<=16/\iv=.int .i64 (k:Int)/\(kwL.take k).contains s=false/\wr=w1) (fun iv _=>16 - (intOf iv).toNat)
 case atStart=>exact ⟨0,Nat.zero_le _,rfl,rfl,rfl⟩
 case round =>
  obtain ⟨k,hk,rfl,hno,rfl⟩:=hrel
  by_cases hlt:k<16
  ·have hko:k<kwL.length:=hlt
   have hc:wr.cell? ⟨w.heap.size,k,none⟩=some (.string ⟨kwL[k].toArray⟩):=by rw [<- HW.out];exact lit_at w 9 kwL k hko
   have HLT:=hid hlt;have HNO:=hid hno
   have HTN:=hid (fun hx=>take_no hko hno hx)
   have HIN:=hid (List.getElem_mem hko)
   clear hno
   generalize kwL[k]=x at *
   by_cases hx:x=s
   ·have HO:=hid (show kwB s=true from by unfold kwB;rw [List.contains_iff_mem,<- hx];exact HIN.out)
    have t1:((⟨s.toArray⟩:ByteArray).toList == (⟨x.toArray⟩:ByteArray).toList)=true:=(str_eqL s x).trans (by simp [hx])
    have t2:(s == x)=true:=by simp [hx]
    clear hx
    go_wp2_with fail
    go_ret
    obtain rfl:R=true:=by rw [<- HR.out,HO.out];rfl
    exact ⟨rfl,HB.out⟩
   ·have t1:((⟨s.toArray⟩:ByteArray).toList == (⟨x.toArray⟩:ByteArray).toList)=false:=(str_eqL s x).trans (by simpa using fun h=>hx h.symm)
    have t2:(s == x)=false:=by rw [beq_eq_false_iff_ne];exact fun h=>hx h.symm
    have HX:=hid hx
    clear hx
    go_wp2_with fail
    go_roundw
    case rel=>exact ⟨k+1,HLT.out,by rw [show ((k+1:Nat):Int)=(k:Int)+1 from by omega],HTN.out HX.out,trivial⟩
    case measure=>have:=HLT.out;show 16 - ((k:Int)+1).toNat<16 - ((k:Int)).toNat;omega
  ·obtain rfl:k=16:=by omega
   have HO:=hid (show kwB s=false from hno)
   clear hlt hno
   go_wp2_with (go_at_call 210;(refine (rof_any s _ E HE.out).mono ?_);rintro e w2 ⟨⟨r,rfl⟩,hb2⟩;have HB2:=hid (HB.out.trans (hb2.mono HB.out.size));clear hb2)
   go_ret
   refine ⟨?_,HB2.out⟩
   rw [<- HR.out,HO.out,HEO.out]
   rfl
theorem rnamed_any (s:Bs) (w:World) (hs:s.length<=140737488355328):Calls Tryz.prog 131 #[.string ⟨s.toArray⟩] w fun e w'=>e=.returned (.bool (namedB s))/\Below w.heap.size w w':=by
 have HS:=hid hs
 have HNB:=hid (show namedB s=(nameB s && !(kwB s || opB s)) from by unfold namedB;cases nameB s <;> cases opB s <;> cases kwB s <;> rfl)
 obtain ⟨bn,hbn⟩:∃ b,nameB s=b:=⟨_,rfl⟩
 obtain ⟨bk,hbk⟩:∃ b,(kwB s || opB s)=b:=⟨_,rfl⟩
 rw [hbn,hbk] at HNB
 have HBN:=hid hbn;have HBK:=hid hbk
 clear hs hbn hbk
 have HC1:=hid (fun W=>rname_any s W HS.out)
 have HC2:=hid (fun W=>rkeyword_any s W)
 go_enter Tryz.func131,Tryz.ntmps131
 cases bn <;> cases bk
 all_goals (
  go_wp2_with (first
   | (go_at_call 171;refine (HC1.out _).mono ?_;rw [HBN.out];rintro e w2 ⟨rfl,rfl⟩)
   | (go_at_call 172;refine (HC2.out _).mono ?_;rw [HBK.out];rintro e w3 ⟨rfl,hb3⟩;have HB3:=hid hb3;clear hb3))
  go_ret
  exact ⟨by rw [HNB.out];rfl,by first | exact HB3.out | exact Below.refl _ _⟩)
theorem rarity_any (o:Nat) (ho:2<=o/\o<=20) (w:World):Calls Tryz.prog 138 #[.int .u8 (o:Int)] w fun e w'=>e=.returned (.tuple #[.int .i64 (arityM o:Int),.int .i64 0])/\w'=w:=by
 have g1:decide ((21:Int)<(o:Int))=false:=by simp;omega
 have g2:decide ((o:Int)<=1)=false:=by simp;omega
 have g4:((o:Int) == 21)=false:=by simp;omega
 by_cases h:o<=3
 ·have g3:decide ((o:Int)<=3)=true:=by simp;omega
  have HA:=hid (show arityM o=1 from by unfold arityM;rw [if_neg (by omega),if_pos h])
  clear h ho
  go_enter Tryz.func138,Tryz.ntmps138
  go_wp2_with fail
  go_ret2
  exact ⟨by rw [HA.out];rfl,rfl⟩
 ·have g3:decide ((o:Int)<=3)=false:=by simp;omega
  have HA:=hid (show arityM o=2 from by unfold arityM;rw [if_neg (by omega),if_neg h,if_neg (by omega)])
  clear h ho
  go_enter Tryz.func138,Tryz.ntmps138
  go_wp2_with fail
  go_ret2
  exact ⟨by rw [HA.out];rfl,rfl⟩
theorem ropname_any (o:Nat) (ho:2<=o/\o<=20) (w:World):Calls Tryz.prog 98 #[.int .u8 (o:Int)] w fun e w'=>e=.returned (.tuple #[.string ⟨(opT o).toArray⟩,.int .i64 0])/\Below w.heap.size w w':=by
 have g1:decide ((21:Int)<(o:Int))=false:=by simp;omega
 have g2:decide ((o:Int)<2)=false:=by simp;omega
 obtain ⟨k,hk⟩:∃ k,o=k+2:=⟨o - 2,by omega⟩
 have hk20:k<opL.length:=by show k<20;omega
 have g3:(o:Int) - 2=(k:Int):=by omega
 have g4:k<20:=hk20
 have hc:∀ w:World,(w.alloc (.cells (opL.map sv).toArray 9)).cell? ⟨w.heap.size,k,none⟩=some (.string ⟨opL[k].toArray⟩):=fun w=>lit_at w 9 opL k hk20
 have HT:=hid (show opT o=opL[k] from by unfold opT;rw [hk,List.getD_eq_getElem?_getD,Nat.add_sub_cancel,List.getElem?_eq_getElem hk20];rfl)
 generalize opL[k]=x at *
 have hgk:IntKind.u8.wrap ((o:Int) - 2)=(k:Int):=by rw [g3];exact IntWalk.u8_in _ (by omega)
 clear hk ho
 go_enter Tryz.func98,Tryz.ntmps98
 go_wp2_with (go_at_call 139;(refine (rnames_any _).mono ?_);rintro e w1 ⟨rfl,hw1⟩;have hc1:w1.cell? ⟨w.heap.size,k,none⟩=some (.string ⟨x.toArray⟩):=(by rw [hw1];exact hc w);have HB1:=hid (show Below w.heap.size w w1 from by rw [hw1];exact bA);clear hw1)
 go_ret2
 exact ⟨by rw [HT.out];rfl,HB1.out⟩
theorem rfields_0 (w:World):Calls Tryz.prog 137 #[.int .u8 0] w fun e w'=>e=.returned (.tuple #[.agg #[.bool true,.bool false,.int .i64 1],.bool true])/\Below w.heap.size w w':=by
 go_enter Tryz.func137,Tryz.ntmps137
 go_wp2_with fail
 refine bodyPost_ret (v := .tuple #[.agg #[.bool true,.bool false,.int .i64 1],.bool true]) (by simp [results,Tryz.results137,go_sem]) rfl ?_
 exact ⟨rfl,bA⟩
theorem rfields_1 (w:World):Calls Tryz.prog 137 #[.int .u8 1] w fun e w'=>e=.returned (.tuple #[.agg #[.bool true,.bool false,.int .i64 (-1)],.bool true])/\Below w.heap.size w w':=by
 go_enter Tryz.func137,Tryz.ntmps137
 go_wp2_with fail
 refine bodyPost_ret (v := .tuple #[.agg #[.bool true,.bool false,.int .i64 (-1)],.bool true]) (by simp [results,Tryz.results137,go_sem]) rfl ?_
 exact ⟨rfl,bA⟩
theorem rfields_2 (w:World):Calls Tryz.prog 137 #[.int .u8 2] w fun e w'=>e=.returned (.tuple #[.agg #[.bool true,.bool true,.int .i64 1],.bool true])/\Below w.heap.size w w':=by
 go_enter Tryz.func137,Tryz.ntmps137
 go_wp2_with fail
 refine bodyPost_ret (v := .tuple #[.agg #[.bool true,.bool true,.int .i64 1],.bool true]) (by simp [results,Tryz.results137,go_sem]) rfl ?_
 exact ⟨rfl,bA⟩
theorem rfields_3 (w:World):Calls Tryz.prog 137 #[.int .u8 3] w fun e w'=>e=.returned (.tuple #[.agg #[.bool false,.bool true,.int .i64 2],.bool true])/\Below w.heap.size w w':=by
 go_enter Tryz.func137,Tryz.ntmps137
 go_wp2_with fail
 refine bodyPost_ret (v := .tuple #[.agg #[.bool false,.bool true,.int .i64 2],.bool true]) (by simp [results,Tryz.results137,go_sem]) rfl ?_
 exact ⟨rfl,bA⟩
theorem rfields_4 (w:World):Calls Tryz.prog 137 #[.int .u8 4] w fun e w'=>e=.returned (.tuple #[.agg #[.bool true,.bool true,.int .i64 (-1)],.bool true])/\Below w.heap.size w w':=by
 go_enter Tryz.func137,Tryz.ntmps137
 go_wp2_with fail
 refine bodyPost_ret (v := .tuple #[.agg #[.bool true,.bool true,.int .i64 (-1)],.bool true]) (by simp [results,Tryz.results137,go_sem]) rfl ?_
 exact ⟨rfl,bA⟩
theorem rfields_5 (w:World):Calls Tryz.prog 137 #[.int .u8 5] w fun e w'=>e=.returned (.tuple #[.agg #[.bool true,.bool true,.int .i64 0],.bool true])/\Below w.heap.size w w':=by
 go_enter Tryz.func137,Tryz.ntmps137
 go_wp2_with fail
 refine bodyPost_ret (v := .tuple #[.agg #[.bool true,.bool true,.int .i64 0],.bool true]) (by simp [results,Tryz.results137,go_sem]) rfl ?_
 exact ⟨rfl,bA⟩
theorem rfields_6 (w:World):Calls Tryz.prog 137 #[.int .u8 6] w fun e w'=>e=.returned (.tuple #[.agg #[.bool false,.bool true,.int .i64 1],.bool true])/\Below w.heap.size w w':=by
 go_enter Tryz.func137,Tryz.ntmps137
 go_wp2_with fail
 refine bodyPost_ret (v := .tuple #[.agg #[.bool false,.bool true,.int .i64 1],.bool true]) (by simp [results,Tryz.results137,go_sem]) rfl ?_
 exact ⟨rfl,bA⟩
theorem rfields_7 (w:World):Calls Tryz.prog 137 #[.int .u8 7] w fun e w'=>e=.returned (.tuple #[.agg #[.bool true,.bool true,.int .i64 1],.bool true])/\Below w.heap.size w w':=by
 go_enter Tryz.func137,Tryz.ntmps137
 go_wp2_with fail
 refine bodyPost_ret (v := .tuple #[.agg #[.bool true,.bool true,.int .i64 1],.bool true]) (by simp [results,Tryz.results137,go_sem]) rfl ?_
 exact ⟨rfl,bA⟩
theorem rfields_8 (w:World):Calls Tryz.prog 137 #[.int .u8 8] w fun e w'=>e=.returned (.tuple #[.agg #[.bool false,.bool true,.int .i64 0],.bool true])/\Below w.heap.size w w':=by
 go_enter Tryz.func137,Tryz.ntmps137
 go_wp2_with fail
 refine bodyPost_ret (v := .tuple #[.agg #[.bool false,.bool true,.int .i64 0],.bool true]) (by simp [results,Tryz.results137,go_sem]) rfl ?_
 exact ⟨rfl,bA⟩
theorem rfields_9 (w:World):Calls Tryz.prog 137 #[.int .u8 9] w fun e w'=>e=.returned (.tuple #[.agg #[.bool false,.bool true,.int .i64 1],.bool true])/\Below w.heap.size w w':=by
 go_enter Tryz.func137,Tryz.ntmps137
 go_wp2_with fail
 refine bodyPost_ret (v := .tuple #[.agg #[.bool false,.bool true,.int .i64 1],.bool true]) (by simp [results,Tryz.results137,go_sem]) rfl ?_
 exact ⟨rfl,bA⟩
theorem rfields_10 (w:World):Calls Tryz.prog 137 #[.int .u8 10] w fun e w'=>e=.returned (.tuple #[.agg #[.bool false,.bool true,.int .i64 0],.bool true])/\Below w.heap.size w w':=by
 go_enter Tryz.func137,Tryz.ntmps137
 go_wp2_with fail
 refine bodyPost_ret (v := .tuple #[.agg #[.bool false,.bool true,.int .i64 0],.bool true]) (by simp [results,Tryz.results137,go_sem]) rfl ?_
 exact ⟨rfl,bA⟩
theorem rfields_11 (w:World):Calls Tryz.prog 137 #[.int .u8 11] w fun e w'=>e=.returned (.tuple #[.agg #[.bool false,.bool false,.int .i64 0],.bool true])/\Below w.heap.size w w':=by
 go_enter Tryz.func137,Tryz.ntmps137
 go_wp2_with fail
 refine bodyPost_ret (v := .tuple #[.agg #[.bool false,.bool false,.int .i64 0],.bool true]) (by simp [results,Tryz.results137,go_sem]) rfl ?_
 exact ⟨rfl,bA⟩
theorem rfields_12 (w:World):Calls Tryz.prog 137 #[.int .u8 12] w fun e w'=>e=.returned (.tuple #[.agg #[.bool false,.bool false,.int .i64 1],.bool true])/\Below w.heap.size w w':=by
 go_enter Tryz.func137,Tryz.ntmps137
 go_wp2_with fail
 refine bodyPost_ret (v := .tuple #[.agg #[.bool false,.bool false,.int .i64 1],.bool true]) (by simp [results,Tryz.results137,go_sem]) rfl ?_
 exact ⟨rfl,bA⟩
theorem rfields_x (kind:Nat) (hk:13<=kind) (w:World):Calls Tryz.prog 137 #[.int .u8 (kind:Int)] w fun e w'=>e=.returned (.tuple #[.agg #[.bool false,.bool false,.int .i64 0],.bool false])/\Below w.heap.size w w':=by
 have t0:((kind:Int) == 0)=false:=by simp;omega
 have t1:((kind:Int) == 1)=false:=by simp;omega
 have t2:((kind:Int) == 2)=false:=by simp;omega
 have t3:((kind:Int) == 3)=false:=by simp;omega
 have t4:((kind:Int) == 4)=false:=by simp;omega
 have t5:((kind:Int) == 5)=false:=by simp;omega
 have t6:((kind:Int) == 6)=false:=by simp;omega
 have t7:((kind:Int) == 7)=false:=by simp;omega
 have t8:((kind:Int) == 8)=false:=by simp;omega
 have t9:((kind:Int) == 9)=false:=by simp;omega
 have t10:((kind:Int) == 10)=false:=by simp;omega
 have t11:((kind:Int) == 11)=false:=by simp;omega
 have t12:((kind:Int) == 12)=false:=by simp;omega
 clear hk
 go_enter Tryz.func137,Tryz.ntmps137
 go_wp2_with fail
 refine bodyPost_ret (v := .tuple #[.agg #[.bool false,.bool false,.int .i64 0],.bool false]) (by simp [results,Tryz.results137,go_sem]) rfl ?_
 exact ⟨rfl,bA⟩
end Go.Proofs.YtoofbgoeipijcaaGreatDoor
