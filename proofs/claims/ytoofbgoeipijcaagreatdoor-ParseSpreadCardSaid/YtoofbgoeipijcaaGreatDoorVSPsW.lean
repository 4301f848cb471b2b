/-
 A part.
-/
import Derived.Test.YtoofbgoeipijcaaGreatDoorVB8
import Derived.Test.YtoofbgoeipijcaaGreatDoorVB12
namespace Go.Proofs.YtoofbgoeipijcaaGreatDoor
set_option linter.all false
open Go.RowKit Go.Shelf
attribute [local go_sem] Oper.semAt_some
def nzF (ns:Bs) (k:Nat):Nat:=(ns.getD (k % ns.length) 0).toNat % 4
def spB (ns l:Bs):Bs:=if ns=[] then l else spM (nzF ns) l 0 false
theorem cat2Q (t s:Bs):(⟨t.toArray⟩:ByteArray)++⟨s.toArray⟩=⟨(t++s).toArray⟩:=by rw [ByteArray.mk_append_mk]
def L4 (b:Nat) (f:Nat->Bs) (W:World):Prop:=BxL 9 b [.string ⟨(f 0).toArray⟩,.string ⟨(f 1).toArray⟩,.string ⟨(f 2).toArray⟩,.string ⟨(f 3).toArray⟩] W
theorem L4.at {b:Nat} {f:Nat->Bs} {W:World} (h:L4 b f W) (q:Nat) (hq:q<4):W.cell? ⟨b,q,none⟩=some (.string ⟨(f q).toArray⟩):=by
 have:q=0\/q=1\/q=2\/q=3:=by omega
 rcases this with rfl | rfl | rfl | rfl
 ·exact BxL.at h 0 rfl
 ·exact BxL.at h 1 rfl
 ·exact BxL.at h 2 rfl
 ·exact BxL.at h 3 rfl
theorem L4.al {b:Nat} {f:Nat->Bs} {W:World} (h:L4 b f W) (o:Obj):L4 b f (W.alloc o):=BxL.al h o
theorem nlA_len (n:Nat):(nlA n).length<=8:=by
 unfold nlA
 repeat' split
 all_goals simp
theorem nlB_len (n:Nat):(nlB n).length<=2:=by
 unfold nlB
 repeat' split
 all_goals simp
theorem blk_len (n:Nat):(blk n).length<=2:=by
 unfold blk
 repeat' split
 all_goals simp
theorem catE (O a b:Bs):(⟨O.toArray⟩:ByteArray)++(⟨a.toArray⟩++⟨#[10]⟩++⟨b.toArray⟩)=⟨(O++(a++10 :: b)).toArray⟩:=by
 simp only [ByteArray.mk_append_mk];simp
theorem cut1 (l:Bs) (i:Nat) (h:i<l.length):(⟨l.toArray⟩:ByteArray).extract i (i+1)=⟨#[l[i]]⟩:=by
 apply ByteArray.ext
 rw [ByteArray.data_extract]
 apply Array.ext'
 simp [List.extract_eq_take_drop]
 rw [List.drop_eq_getElem_cons h];rfl
set_option maxRecDepth 100000 in
set_option maxHeartbeats 4000000 in
theorem spread_some (l ns:Bs) (v:Value) (w:World) (hv:Bys (·<w.heap.size) w v ns) (hl:l.length<=1500) (hn:ns ≠ []) :
  Calls Tryz.prog 31 #[.string ⟨l.toArray⟩,v] w fun e w'=>e=.returned (.string ⟨(spM (nzF ns) l 0 false).toArray⟩)/\Below w.heap.size w w':=by
 obtain ⟨p,cp,rfl,h1,h2,h3,hr⟩:=hv.op
 unfold maxLen at h2
 have hnl:0<ns.length:=List.length_pos_iff.2 hn
 have e1:((ns.length:Int) == 0)=false:=by rw [beq_eq_false_iff_ne];omega
 have htl:=sp_len (nzF ns) l 0 false
 obtain ⟨TX,hTX⟩:∃ T,spM (nzF ns) l 0 false=T:=⟨_,rfl⟩
 rw [hTX] at htl ⊢
 have HR:=hid hr;have HT0:=hid (show ([]:Bs)++spM (nzF ns) (l.drop 0) 0 false=TX from hTX)
 have hsz:(⟨l.toArray⟩:ByteArray).size=l.length:=rfl
 clear hr hv hTX hn
 go_enter Tryz.func31,Tryz.ntmps31
 go_wp2_with fail
 go_loopw [5,6,7,8,9,10] (fun ov kv cv iv u9 u10 wr=>∃ (i:Nat) (O:Bs) (com:Bool),i<=l.length/\iv=.int .i64 (i:Int)/\kv=.int .i64 (i:Int)/\cv=.bool com/\ov=.string ⟨O.toArray⟩/\O++spM (nzF ns) (l.drop i) i com=TX/\Below w.heap.size w wr) (fun _ _ _ iv _ _ _=>l.length - (intOf iv).toNat)
 case atStart=>exact ⟨0,[],false,Nat.zero_le _,rfl,rfl,rfl,rfl,HT0.out,Below.refl _ _⟩
 case round =>
  obtain ⟨i,O,com,hi,rfl,rfl,rfl,rfl,ht,hbr⟩:=hrel
  obtain ⟨wo,rfl⟩:∃ wo:World,wo=wr:=⟨_,rfl⟩
  have hOl:O.length<=16500:=by have:=congrArg List.length ht;rw [List.length_append] at this;omega
  have HBo:=hid hbr
  clear HT0
  have hzO:(⟨O.toArray⟩:ByteArray).size=O.length:=rfl
  by_cases hil:i<l.length
  ·have t1:decide ((i:Int)<(l.length:Int))=true:=decide_eq_true (by omega)
   rw [List.drop_eq_getElem_cons hil] at ht
   have hcut:=cut1 l i hil
   have hqq:(i+1) % ns.length<ns.length:=Nat.mod_lt _ hnl
   obtain ⟨b0,o0,rfl,hR0,hcc⟩:=HR.at8 ((i+1) % ns.length) hqq
   have hx:=(hbr.cell (p:=⟨b0,_,none⟩) hR0).trans (hcc ((i+1) % ns.length) hqq)
   have HN:=hid (show nzF ns (i+1)=ns[(i+1) % ns.length].toNat % 4 from by unfold nzF List.getD;rw [List.getElem?_eq_getElem hqq];rfl)
   have hxb:=ns[(i+1) % ns.length].toNat_lt
   generalize ns[(i+1) % ns.length]=x at *
   obtain ⟨q0,hqe⟩:∃ q,(i+1) % ns.length=q:=⟨_,rfl⟩
   rw [hqe] at hx hqq
   have hm2:((i:Int)+1) % (ns.length:Int)=(q0:Int):=by
    have:=Int.natCast_emod (i+1) ns.length
    rw [hqe] at this
    rw [show (i:Int)+1=((i+1:Nat):Int) by omega]
    exact this.symm
   have hm:Int.tmod ((i:Int)+1) (ns.length:Int)=(q0:Int):=by rw [Int.tmod_eq_emod_of_nonneg (by omega)];exact hm2
   obtain ⟨q,hq⟩:∃ q,x.toNat % 4=q:=⟨_,rfl⟩
   have hq4:q<4:=by omega
   have hqt:Int.tmod (x.toNat:Int) 4=(q:Int):=by rw [Int.tmod_eq_emod_of_nonneg (by omega)];omega
   have hqm:(x.toNat:Int) % 4=(q:Int):=by omega
   have hqi:(q:Int)<4:=by omega
   have HQ:=hid (show nzF ns (i+1)=q from by rw [HN.out];exact hq)
   obtain ⟨c,hc⟩:∃ c,l[i]=c:=⟨_,rfl⟩
   rw [hc] at ht hcut
   clear HN hqe hcc hq hbr hc
   unfold spM at ht
   rw [HQ.out] at ht
   go_upto_region 10 with fail
   have hcz:(⟨#[c]⟩:ByteArray).size=1:=rfl
   have z0:¬ 9223372036854775807<O.length+1:=by omega
   by_cases c1:c=35
   ·subst c1
    rw [if_pos rfl] at ht
    have HTT:=hid (show (O++[35])++spM (nzF ns) (l.drop (i+1)) (i+1) true=TX from by rw [<- ht];simp)
    clear ht
    go_wp2_with fail
    go_roundw
    case rel=>exact ⟨i+1,O++[35],true,by omega,by go_num,by go_num,rfl,congrArg Value.string (cat2Q O [35]),HTT.out,HBo.out⟩
    case measure=>simp [intOf];omega
   ·rw [if_neg c1] at ht
    by_cases c2:c=10
    ·subst c2
     clear c1
     rw [if_pos rfl] at ht
     have lA:=nlA_len q;have lB:=nlB_len q
     have sA:(⟨(nlA q).toArray⟩:ByteArray).size=(nlA q).length:=rfl
     have sB:(⟨(nlB q).toArray⟩:ByteArray).size=(nlB q).length:=rfl
     have z1:¬ 9223372036854775807<(nlA q).length+1:=by omega
     have z2:¬ 9223372036854775807<(nlA q).length+1+(nlB q).length:=by omega
     have z3:¬ 9223372036854775807<O.length+((nlA q).length+1+(nlB q).length):=by omega
     go_upto_region 13 with fail
     have HBwd:=hid (show Below w.heap.size w wo.drew from HBo.drew)
     cases com
     ·have HTT:=hid (show (O++(nlA q++10 :: nlB q))++spM (nzF ns) (l.drop (i+1)) (i+1) false=TX from by rw [<- ht];simp)
      clear ht
      have hFa:=fT
      refine rgN (fun _:World=>True) 11 (by kernel_rfl) ?_
      simp only [zP,Nat.reduceAdd]
      generalize wo.drew=wd at *
      (refine nxW (v:=?_) 12 trivial ?_ ?_;rotate_left;(focus rintro w' _;go_simp;try rfl);simp only [aP])
      (refine nxW (v:=?_) 16 trivial ?_ ?_;rotate_left;(focus rintro w' _;go_simp;try rfl);simp only [aP])
      refine wpHJ_both 0 5 (by kernel_rfl) rfl rfl (fun K hK=>?_) (fun K hK=>?_)
      ·go_simp
       obtain ⟨wa0,hN⟩:∃ X,wd.alloc (.cells #[.string ⟨#[]⟩,.string ⟨#[32]⟩,.string ⟨#[9,35]⟩,.string ⟨#[32,35,32,120,32,61,32,49]⟩] 9)=X:=⟨_,rfl⟩
       have HL0:=hid (show L4 wd.heap.size nlA wa0 from by rw [<- hN];exact BxL.new 9 wd _)
       have HBwa0:=hid (show Below w.heap.size w wa0 from by rw [<- hN];exact HBwd.alloc HBwd.size _)
       rw [hN]
       clear hN
       refine hK _ _ (.inr (.inr trivial)) ?_
       clear hK K
       (refine nxW (v:=?_) 10 trivial ?_ ?_;rotate_left;(focus rintro w' _;go_simp;try rfl);simp only [aP])
       refine wpHJ_both 3 5 (by kernel_rfl) rfl rfl (fun K hK=>?_) (fun K hK=>?_)
       ·have hx3:=HL0.at q hq4
        go_simp
        clear hx3
        refine hK _ _ (.inr (.inr trivial)) ?_
        clear hK K
        (refine nxW (v:=?_) 10 trivial ?_ ?_;rotate_left;(focus rintro w' _;go_simp;try rfl);simp only [aP])
        refine oy 5 fun K hK=>?_
        go_simp
        obtain ⟨wb0,hN⟩:∃ X,wa0.alloc (.cells #[.string ⟨#[]⟩,.string ⟨#[10]⟩,.string ⟨#[35,10]⟩,.string ⟨#[9]⟩] 9)=X:=⟨_,rfl⟩
        have HL5:=hid (show L4 wa0.heap.size nlB wb0 from by rw [<- hN];exact BxL.new 9 wa0 _)
        have HBwb0:=hid (show Below w.heap.size w wb0 from by rw [<- hN];exact HBwa0.alloc HBwa0.size _)
        have HL0b:=hid (show L4 _ nlA wb0 from by rw [<- hN];exact HL0.al _)
        rw [hN]
        clear hN
        refine hK _ _ (.inr (.inr trivial)) ?_
        clear hK K
        (refine nxW (v:=?_) 11 trivial ?_ ?_;rotate_left;(focus rintro w' _;go_simp;try rfl);simp only [aP])
        refine oy 8 fun K hK=>?_
        have hx8:=HL5.at q hq4
        go_simp
        clear hx8
        refine hK _ _ (.inr (.inr trivial)) ?_
        clear hK K
        (refine nxW (v:=?_) 11 trivial ?_ ?_;rotate_left;(focus rintro w' _;go_simp;try rfl);simp only [aP])
        (refine nxW (v:=?_) 11 trivial ?_ ?_;rotate_left;(focus rintro w' _;go_simp;try rfl);simp only [aP])
        refine wpHJ_done (by kernel_rfl) ?_ _
        simp only [onlyN,Exit.then]
        clear hFa
        go_wp2_with fail
        go_roundw
        case rel=>exact ⟨i+1,O++(nlA q++10 :: nlB q),false,by omega,by go_num,by go_num,rfl,by rw [catE],HTT.out,HBwb0.out⟩
        case measure=>simp [intOf];omega
       ·go_simp
        obtain ⟨wb0,hN⟩:∃ X,wa0.alloc (.cells #[.string ⟨#[]⟩,.string ⟨#[10]⟩,.string ⟨#[35,10]⟩,.string ⟨#[9]⟩] 9)=X:=⟨_,rfl⟩
        have HL5:=hid (show L4 wa0.heap.size nlB wb0 from by rw [<- hN];exact BxL.new 9 wa0 _)
        have HBwb0:=hid (show Below w.heap.size w wb0 from by rw [<- hN];exact HBwa0.alloc HBwa0.size _)
        have HL0b:=hid (show L4 _ nlA wb0 from by rw [<- hN];exact HL0.al _)
        rw [hN]
        clear hN
        refine hK _ _ (.inr (.inr trivial)) ?_
        clear hK K
        (refine nxW (v:=?_) 13 trivial ?_ ?_;rotate_left;(focus rintro w' _;go_simp;try rfl);simp only [aP])
        refine wpHJ_both 3 8 (by kernel_rfl) rfl rfl (fun K hK=>?_) (fun K hK=>?_)
        ·have hx3:=HL0b.at q hq4
         go_simp
         clear hx3
         refine hK _ _ (.inr (.inr trivial)) ?_
         clear hK K
         (refine nxW (v:=?_) 8 trivial ?_ ?_;rotate_left;(focus rintro w' _;go_simp;try rfl);simp only [aP])
         refine oy 8 fun K hK=>?_
         have hx8:=HL5.at q hq4
         go_simp
         clear hx8
         refine hK _ _ (.inr (.inr trivial)) ?_
         clear hK K
         (refine nxW (v:=?_) 11 trivial ?_ ?_;rotate_left;(focus rintro w' _;go_simp;try rfl);simp only [aP])
         (refine nxW (v:=?_) 11 trivial ?_ ?_;rotate_left;(focus rintro w' _;go_simp;try rfl);simp only [aP])
         refine wpHJ_done (by kernel_rfl) ?_ _
         simp only [onlyN,Exit.then]
         clear hFa
         go_wp2_with fail
         go_roundw
         case rel=>exact ⟨i+1,O++(nlA q++10 :: nlB q),false,by omega,by go_num,by go_num,rfl,by rw [catE],HTT.out,HBwb0.out⟩
         case measure=>simp [intOf];omega
        ·have hx8:=HL5.at q hq4
         go_simp
         clear hx8
         refine hK _ _ (.inr (.inr trivial)) ?_
         clear hK K
         refine oy 3 fun K hK=>?_
         have hx3:=HL0b.at q hq4
         go_simp
         clear hx3
         refine hK _ _ (.inr (.inr trivial)) ?_
         clear hK K
         (refine nxW (v:=?_) 7 trivial ?_ ?_;rotate_left;(focus rintro w' _;go_simp;try rfl);simp only [aP])
         (refine nxW (v:=?_) 11 trivial ?_ ?_;rotate_left;(focus rintro w' _;go_simp;try rfl);simp only [aP])
         (refine nxW (v:=?_) 11 trivial ?_ ?_;rotate_left;(focus rintro w' _;go_simp;try rfl);simp only [aP])
         refine wpHJ_done (by kernel_rfl) ?_ _
         simp only [onlyN,Exit.then]
         clear hFa
         go_wp2_with fail
         go_roundw
         case rel=>exact ⟨i+1,O++(nlA q++10 :: nlB q),false,by omega,by go_num,by go_num,rfl,by rw [catE],HTT.out,HBwb0.out⟩
         case measure=>simp [intOf];omega
      ·go_simp
       obtain ⟨wa5,hN⟩:∃ X,wd.alloc (.cells #[.string ⟨#[]⟩,.string ⟨#[10]⟩,.string ⟨#[35,10]⟩,.string ⟨#[9]⟩] 9)=X:=⟨_,rfl⟩
       have HL5:=hid (show L4 wd.heap.size nlB wa5 from by rw [<- hN];exact BxL.new 9 wd _)
       have HBwa5:=hid (show Below w.heap.size w wa5 from by rw [<- hN];exact HBwd.alloc HBwd.size _)
       rw [hN]
       clear hN
       refine hK _ _ (.inr (.inr trivial)) ?_
       clear hK K
       (refine nxW (v:=?_) 15 trivial ?_ ?_;rotate_left;(focus rintro w' _;go_simp;try rfl);simp only [aP])
       refine wpHJ_both 0 8 (by kernel_rfl) rfl rfl (fun K hK=>?_) (fun K hK=>?_)
       ·go_simp
        obtain ⟨wb5,hN⟩:∃ X,wa5.alloc (.cells #[.string ⟨#[]⟩,.string ⟨#[32]⟩,.string ⟨#[9,35]⟩,.string ⟨#[32,35,32,120,32,61,32,49]⟩] 9)=X:=⟨_,rfl⟩
        have HL0:=hid (show L4 wa5.heap.size nlA wb5 from by rw [<- hN];exact BxL.new 9 wa5 _)
        have HBwb5:=hid (show Below w.heap.size w wb5 from by rw [<- hN];exact HBwa5.alloc HBwa5.size _)
        have HL5b:=hid (show L4 _ nlB wb5 from by rw [<- hN];exact HL5.al _)
        rw [hN]
        clear hN
        refine hK _ _ (.inr (.inr trivial)) ?_
        clear hK K
        (refine nxW (v:=?_) 8 trivial ?_ ?_;rotate_left;(focus rintro w' _;go_simp;try rfl);simp only [aP])
        refine wpHJ_both 3 8 (by kernel_rfl) rfl rfl (fun K hK=>?_) (fun K hK=>?_)
        ·have hx3:=HL0.at q hq4
         go_simp
         clear hx3
         refine hK _ _ (.inr (.inr trivial)) ?_
         clear hK K
         (refine nxW (v:=?_) 8 trivial ?_ ?_;rotate_left;(focus rintro w' _;go_simp;try rfl);simp only [aP])
         refine oy 8 fun K hK=>?_
         have hx8:=HL5b.at q hq4
         go_simp
         clear hx8
         refine hK _ _ (.inr (.inr trivial)) ?_
         clear hK K
         (refine nxW (v:=?_) 11 trivial ?_ ?_;rotate_left;(focus rintro w' _;go_simp;try rfl);simp only [aP])
         (refine nxW (v:=?_) 11 trivial ?_ ?_;rotate_left;(focus rintro w' _;go_simp;try rfl);simp only [aP])
         refine wpHJ_done (by kernel_rfl) ?_ _
         simp only [onlyN,Exit.then]
         clear hFa
         go_wp2_with fail
         go_roundw
         case rel=>exact ⟨i+1,O++(nlA q++10 :: nlB q),false,by omega,by go_num,by go_num,rfl,by rw [catE],HTT.out,HBwb5.out⟩
         case measure=>simp [intOf];omega
        ·have hx8:=HL5b.at q hq4
         go_simp
         clear hx8
         refine hK _ _ (.inr (.inr trivial)) ?_
         clear hK K
         refine oy 3 fun K hK=>?_
         have hx3:=HL0.at q hq4
         go_simp
         clear hx3
         refine hK _ _ (.inr (.inr trivial)) ?_
         clear hK K
         (refine nxW (v:=?_) 7 trivial ?_ ?_;rotate_left;(focus rintro w' _;go_simp;try rfl);simp only [aP])
         (refine nxW (v:=?_) 11 trivial ?_ ?_;rotate_left;(focus rintro w' _;go_simp;try rfl);simp only [aP])
         (refine nxW (v:=?_) 11 trivial ?_ ?_;rotate_left;(focus rintro w' _;go_simp;try rfl);simp only [aP])
         refine wpHJ_done (by kernel_rfl) ?_ _
         simp only [onlyN,Exit.then]
         clear hFa
         go_wp2_with fail
         go_roundw
         case rel=>exact ⟨i+1,O++(nlA q++10 :: nlB q),false,by omega,by go_num,by go_num,rfl,by rw [catE],HTT.out,HBwb5.out⟩
         case measure=>simp [intOf];omega
       ·have hx8:=HL5.at q hq4
        go_simp
        clear hx8
        refine hK _ _ (.inr (.inr trivial)) ?_
        clear hK K
        refine oy 0 fun K hK=>?_
        go_simp
        obtain ⟨wb5,hN⟩:∃ X,wa5.alloc (.cells #[.string ⟨#[]⟩,.string ⟨#[32]⟩,.string ⟨#[9,35]⟩,.string ⟨#[32,35,32,120,32,61,32,49]⟩] 9)=X:=⟨_,rfl⟩
        have HL0:=hid (show L4 wa5.heap.size nlA wb5 from by rw [<- hN];exact BxL.new 9 wa5 _)
        have HBwb5:=hid (show Below w.heap.size w wb5 from by rw [<- hN];exact HBwa5.alloc HBwa5.size _)
        have HL5b:=hid (show L4 _ nlB wb5 from by rw [<- hN];exact HL5.al _)
        rw [hN]
        clear hN
        refine hK _ _ (.inr (.inr trivial)) ?_
        clear hK K
        (refine nxW (v:=?_) 7 trivial ?_ ?_;rotate_left;(focus rintro w' _;go_simp;try rfl);simp only [aP])
        refine oy 3 fun K hK=>?_
        have hx3:=HL0.at q hq4
        go_simp
        clear hx3
        refine hK _ _ (.inr (.inr trivial)) ?_
        clear hK K
        (refine nxW (v:=?_) 7 trivial ?_ ?_;rotate_left;(focus rintro w' _;go_simp;try rfl);simp only [aP])
        (refine nxW (v:=?_) 11 trivial ?_ ?_;rotate_left;(focus rintro w' _;go_simp;try rfl);simp only [aP])
        (refine nxW (v:=?_) 11 trivial ?_ ?_;rotate_left;(focus rintro w' _;go_simp;try rfl);simp only [aP])
        refine wpHJ_done (by kernel_rfl) ?_ _
        simp only [onlyN,Exit.then]
        clear hFa
        go_wp2_with fail
        go_roundw
        case rel=>exact ⟨i+1,O++(nlA q++10 :: nlB q),false,by omega,by go_num,by go_num,rfl,by rw [catE],HTT.out,HBwb5.out⟩
        case measure=>simp [intOf];omega
     ·have HTT:=hid (show (O++[10])++spM (nzF ns) (l.drop (i+1)) (i+1) false=TX from by rw [<- ht];simp)
      clear ht
      have hFa:=fT
      refine rgN (fun _:World=>True) 11 (by kernel_rfl) ?_
      simp only [zP,Nat.reduceAdd]
      generalize wo.drew=wd at *
      (refine nxW (v:=?_) 12 trivial ?_ ?_;rotate_left;(focus rintro w' _;go_simp;try rfl);simp only [aP])
      (refine nxW (v:=?_) 16 trivial ?_ ?_;rotate_left;(focus rintro w' _;go_simp;try rfl);simp only [aP])
      refine wpHJ_both 0 5 (by kernel_rfl) rfl rfl (fun K hK=>?_) (fun K hK=>?_)
      ·go_simp
       obtain ⟨wa0,hN⟩:∃ X,wd.alloc (.cells #[.string ⟨#[]⟩,.string ⟨#[32]⟩,.string ⟨#[9,35]⟩,.string ⟨#[32,35,32,120,32,61,32,49]⟩] 9)=X:=⟨_,rfl⟩
       have HL0:=hid (show L4 wd.heap.size nlA wa0 from by rw [<- hN];exact BxL.new 9 wd _)
       have HBwa0:=hid (show Below w.heap.size w wa0 from by rw [<- hN];exact HBwd.alloc HBwd.size _)
       rw [hN]
       clear hN
       refine hK _ _ (.inr (.inr trivial)) ?_
       clear hK K
       (refine nxW (v:=?_) 10 trivial ?_ ?_;rotate_left;(focus rintro w' _;go_simp;try rfl);simp only [aP])
       refine wpHJ_both 3 5 (by kernel_rfl) rfl rfl (fun K hK=>?_) (fun K hK=>?_)
       ·have hx3:=HL0.at q hq4
        go_simp
        clear hx3
        refine hK _ _ (.inr (.inr trivial)) ?_
        clear hK K
        (refine nxW (v:=?_) 10 trivial ?_ ?_;rotate_left;(focus rintro w' _;go_simp;try rfl);simp only [aP])
        refine oy 5 fun K hK=>?_
        go_simp
        obtain ⟨wb0,hN⟩:∃ X,wa0.alloc (.cells #[.string ⟨#[]⟩,.string ⟨#[10]⟩,.string ⟨#[35,10]⟩,.string ⟨#[9]⟩] 9)=X:=⟨_,rfl⟩
        have HL5:=hid (show L4 wa0.heap.size nlB wb0 from by rw [<- hN];exact BxL.new 9 wa0 _)
        have HBwb0:=hid (show Below w.heap.size w wb0 from by rw [<- hN];exact HBwa0.alloc HBwa0.size _)
        have HL0b:=hid (show L4 _ nlA wb0 from by rw [<- hN];exact HL0.al _)
        rw [hN]
        clear hN
        refine hK _ _ (.inr (.inr trivial)) ?_
        clear hK K
        (refine nxW (v:=?_) 11 trivial ?_ ?_;rotate_left;(focus rintro w' _;go_simp;try rfl);simp only [aP])
        refine oy 8 fun K hK=>?_
        have hx8:=HL5.at q hq4
        go_simp
        clear hx8
        refine hK _ _ (.inr (.inr trivial)) ?_
        clear hK K
        (refine nxW (v:=?_) 11 trivial ?_ ?_;rotate_left;(focus rintro w' _;go_simp;try rfl);simp only [aP])
        (refine nxW (v:=?_) 11 trivial ?_ ?_;rotate_left;(focus rintro w' _;go_simp;try rfl);simp only [aP])
        refine wpHJ_done (by kernel_rfl) ?_ _
        simp only [onlyN,Exit.then]
        clear hFa
        go_wp2_with fail
        go_roundw
        case rel=>exact ⟨i+1,O++[10],false,by omega,by go_num,by go_num,rfl,congrArg Value.string (cat2Q O [10]),HTT.out,HBwb0.out⟩
        case measure=>simp [intOf];omega
       ·go_simp
        obtain ⟨wb0,hN⟩:∃ X,wa0.alloc (.cells #[.string ⟨#[]⟩,.string ⟨#[10]⟩,.string ⟨#[35,10]⟩,.string ⟨#[9]⟩] 9)=X:=⟨_,rfl⟩
        have HL5:=hid (show L4 wa0.heap.size nlB wb0 from by rw [<- hN];exact BxL.new 9 wa0 _)
        have HBwb0:=hid (show Below w.heap.size w wb0 from by rw [<- hN];exact HBwa0.alloc HBwa0.size _)
        have HL0b:=hid (show L4 _ nlA wb0 from by rw [<- hN];exact HL0.al _)
        rw [hN]
        clear hN
        refine hK _ _ (.inr (.inr trivial)) ?_
        clear hK K
        (refine nxW (v:=?_) 13 trivial ?_ ?_;rotate_left;(focus rintro w' _;go_simp;try rfl);simp only [aP])
        refine wpHJ_both 3 8 (by kernel_rfl) rfl rfl (fun K hK=>?_) (fun K hK=>?_)
        ·have hx3:=HL0b.at q hq4
         go_simp
         clear hx3
         refine hK _ _ (.inr (.inr trivial)) ?_
         clear hK K
         (refine nxW (v:=?_) 8 trivial ?_ ?_;rotate_left;(focus rintro w' _;go_simp;try rfl);simp only [aP])
         refine oy 8 fun K hK=>?_
         have hx8:=HL5.at q hq4
         go_simp
         clear hx8
         refine hK _ _ (.inr (.inr trivial)) ?_
         clear hK K
         (refine nxW (v:=?_) 11 trivial ?_ ?_;rotate_left;(focus rintro w' _;go_simp;try rfl);simp only [aP])
         (refine nxW (v:=?_) 11 trivial ?_ ?_;rotate_left;(focus rintro w' _;go_simp;try rfl);simp only [aP])
         refine wpHJ_done (by kernel_rfl) ?_ _
         simp only [onlyN,Exit.then]
         clear hFa
         go_wp2_with fail
         go_roundw
         case rel=>exact ⟨i+1,O++[10],false,by omega,by go_num,by go_num,rfl,congrArg Value.string (cat2Q O [10]),HTT.out,HBwb0.out⟩
         case measure=>simp [intOf];omega
        ·have hx8:=HL5.at q hq4
         go_simp
         clear hx8
         refine hK _ _ (.inr (.inr trivial)) ?_
         clear hK K
         refine oy 3 fun K hK=>?_
         have hx3:=HL0b.at q hq4
         go_simp
         clear hx3
         refine hK _ _ (.inr (.inr trivial)) ?_
         clear hK K
         (refine nxW (v:=?_) 7 trivial ?_ ?_;rotate_left;(focus rintro w' _;go_simp;try rfl);simp only [aP])
         (refine nxW (v:=?_) 11 trivial ?_ ?_;rotate_left;(focus rintro w' _;go_simp;try rfl);simp only [aP])
         (refine nxW (v:=?_) 11 trivial ?_ ?_;rotate_left;(focus rintro w' _;go_simp;try rfl);simp only [aP])
         refine wpHJ_done (by kernel_rfl) ?_ _
         simp only [onlyN,Exit.then]
         clear hFa
         go_wp2_with fail
         go_roundw
         case rel=>exact ⟨i+1,O++[10],false,by omega,by go_num,by go_num,rfl,congrArg Value.string (cat2Q O [10]),HTT.out,HBwb0.out⟩
         case measure=>simp [intOf];omega
      ·go_simp
       obtain ⟨wa5,hN⟩:∃ X,wd.alloc (.cells #[.string ⟨#[]⟩,.string ⟨#[10]⟩,.string ⟨#[35,10]⟩,.string ⟨#[9]⟩] 9)=X:=⟨_,rfl⟩
       have HL5:=hid (show L4 wd.heap.size nlB wa5 from by rw [<- hN];exact BxL.new 9 wd _)
       have HBwa5:=hid (show Below w.heap.size w wa5 from by rw [<- hN];exact HBwd.alloc HBwd.size _)
       rw [hN]
       clear hN
       refine hK _ _ (.inr (.inr trivial)) ?_
       clear hK K
       (refine nxW (v:=?_) 15 trivial ?_ ?_;rotate_left;(focus rintro w' _;go_simp;try rfl);simp only [aP])
       refine wpHJ_both 0 8 (by kernel_rfl) rfl rfl (fun K hK=>?_) (fun K hK=>?_)
       ·go_simp
        obtain ⟨wb5,hN⟩:∃ X,wa5.alloc (.cells #[.string ⟨#[]⟩,.string ⟨#[32]⟩,.string ⟨#[9,35]⟩,.string ⟨#[32,35,32,120,32,61,32,49]⟩] 9)=X:=⟨_,rfl⟩
        have HL0:=hid (show L4 wa5.heap.size nlA wb5 from by rw [<- hN];exact BxL.new 9 wa5 _)
        have HBwb5:=hid (show Below w.heap.size w wb5 from by rw [<- hN];exact HBwa5.alloc HBwa5.size _)
        have HL5b:=hid (show L4 _ nlB wb5 from by rw [<- hN];exact HL5.al _)
        rw [hN]
        clear hN
        refine hK _ _ (.inr (.inr trivial)) ?_
        clear hK K
        (refine nxW (v:=?_) 8 trivial ?_ ?_;rotate_left;(focus rintro w' _;go_simp;try rfl);simp only [aP])
        refine wpHJ_both 3 8 (by kernel_rfl) rfl rfl (fun K hK=>?_) (fun K hK=>?_)
        ·have hx3:=HL0.at q hq4
         go_simp
         clear hx3
         refine hK _ _ (.inr (.inr trivial)) ?_
         clear hK K
         (refine nxW (v:=?_) 8 trivial ?_ ?_;rotate_left;(focus rintro w' _;go_simp;try rfl);simp only [aP])
         refine oy 8 fun K hK=>?_
         have hx8:=HL5b.at q hq4
         go_simp
         clear hx8
         refine hK _ _ (.inr (.inr trivial)) ?_
         clear hK K
         (refine nxW (v:=?_) 11 trivial ?_ ?_;rotate_left;(focus rintro w' _;go_simp;try rfl);simp only [aP])
         (refine nxW (v:=?_) 11 trivial ?_ ?_;rotate_left;(focus rintro w' _;go_simp;try rfl);simp only [aP])
         refine wpHJ_done (by kernel_rfl) ?_ _
         simp only [onlyN,Exit.then]
         clear hFa
         go_wp2_with fail
         go_roundw
         case rel=>exact ⟨i+1,O++[10],false,by omega,by go_num,by go_num,rfl,congrArg Value.string (cat2Q O [10]),HTT.out,HBwb5.out⟩
         case measure=>simp [intOf];omega
        ·have hx8:=HL5b.at q hq4
         go_simp
         clear hx8
         refine hK _ _ (.inr (.inr trivial)) ?_
         clear hK K
         refine oy 3 fun K hK=>?_
         have hx3:=HL0.at q hq4
         go_simp
         clear hx3
         refine hK _ _ (.inr (.inr trivial)) ?_
         clear hK K
         (refine nxW (v:=?_) 7 trivial ?_ ?_;rotate_left;(focus rintro w' _;go_simp;try rfl);simp only [aP])
         (refine nxW (v:=?_) 11 trivial ?_ ?_;rotate_left;(focus rintro w' _;go_simp;try rfl);simp only [aP])
         (refine nxW (v:=?_) 11 trivial ?_ ?_;rotate_left;(focus rintro w' _;go_simp;try rfl);simp only [aP])
         refine wpHJ_done (by kernel_rfl) ?_ _
         simp only [onlyN,Exit.then]
         clear hFa
         go_wp2_with fail
         go_roundw
         case rel=>exact ⟨i+1,O++[10],false,by omega,by go_num,by go_num,rfl,congrArg Value.string (cat2Q O [10]),HTT.out,HBwb5.out⟩
         case measure=>simp [intOf];omega
       ·have hx8:=HL5.at q hq4
        go_simp
        clear hx8
        refine hK _ _ (.inr (.inr trivial)) ?_
        clear hK K
        refine oy 0 fun K hK=>?_
        go_simp
        obtain ⟨wb5,hN⟩:∃ X,wa5.alloc (.cells #[.string ⟨#[]⟩,.string ⟨#[32]⟩,.string ⟨#[9,35]⟩,.string ⟨#[32,35,32,120,32,61,32,49]⟩] 9)=X:=⟨_,rfl⟩
        have HL0:=hid (show L4 wa5.heap.size nlA wb5 from by rw [<- hN];exact BxL.new 9 wa5 _)
        have HBwb5:=hid (show Below w.heap.size w wb5 from by rw [<- hN];exact HBwa5.alloc HBwa5.size _)
        have HL5b:=hid (show L4 _ nlB wb5 from by rw [<- hN];exact HL5.al _)
        rw [hN]
        clear hN
        refine hK _ _ (.inr (.inr trivial)) ?_
        clear hK K
        (refine nxW (v:=?_) 7 trivial ?_ ?_;rotate_left;(focus rintro w' _;go_simp;try rfl);simp only [aP])
        refine oy 3 fun K hK=>?_
        have hx3:=HL0.at q hq4
        go_simp
        clear hx3
        refine hK _ _ (.inr (.inr trivial)) ?_
        clear hK K
        (refine nxW (v:=?_) 7 trivial ?_ ?_;rotate_left;(focus rintro w' _;go_simp;try rfl);simp only [aP])
        (refine nxW (v:=?_) 11 trivial ?_ ?_;rotate_left;(focus rintro w' _;go_simp;try rfl);simp only [aP])
        (refine nxW (v:=?_) 11 trivial ?_ ?_;rotate_left;(focus rintro w' _;go_simp;try rfl);simp only [aP])
        refine wpHJ_done (by kernel_rfl) ?_ _
        simp only [onlyN,Exit.then]
        clear hFa
        go_wp2_with fail
        go_roundw
        case rel=>exact ⟨i+1,O++[10],false,by omega,by go_num,by go_num,rfl,congrArg Value.string (cat2Q O [10]),HTT.out,HBwb5.out⟩
        case measure=>simp [intOf];omega
    ·rw [if_neg c2] at ht
     have g1:(c == 35)=false:=by rw [beq_eq_false_iff_ne];exact c1
     have g2:(c == 10)=false:=by rw [beq_eq_false_iff_ne];exact c2
     by_cases c3:c=32/\com=false
     ·obtain ⟨rfl,rfl⟩:=c3
      rw [if_pos ⟨rfl,rfl⟩] at ht
      have lB:=blk_len q
      have sB:(⟨(blk q).toArray⟩:ByteArray).size=(blk q).length:=rfl
      have z3:¬ 9223372036854775807<O.length+(blk q).length:=by omega
      have HTT:=hid (show (O++blk q)++spM (nzF ns) (l.drop (i+1)) (i+1) false=TX from by rw [<- ht];simp)
      clear ht c1 c2
      go_upto_region 18 with fail
      obtain ⟨wd,hwd⟩:∃ X,wo.alloc (.cells #[.string ⟨#[32]⟩,.string ⟨#[32,32]⟩,.string ⟨#[9]⟩,.string ⟨#[32,9]⟩] 9)=X:=⟨_,rfl⟩
      have HBwd:=hid (show Below w.heap.size w wd from by rw [<- hwd];exact HBo.alloc HBo.size _)
      have hx9:=(show L4 wo.heap.size blk wd from by rw [<- hwd];exact BxL.new 9 wo _).at q hq4
      go_wp2_with (first | rw [hwd])
      go_roundw
      case rel=>exact ⟨i+1,O++blk q,false,by omega,by go_num,by go_num,rfl,congrArg Value.string (cat2Q O (blk q)),HTT.out,HBwd.out⟩
      case measure=>simp [intOf];omega
     ·rw [if_neg c3] at ht
      have HTT:=hid (show (O++[c])++spM (nzF ns) (l.drop (i+1)) (i+1) com=TX from by rw [<- ht];simp)
      clear ht
      cases com
      ·have g3:(c == 32)=false:=by rw [beq_eq_false_iff_ne];exact fun h=>c3 ⟨h,rfl⟩
       clear c3
       go_wp2_with fail
       go_roundw
       case rel=>exact ⟨i+1,O++[c],false,by omega,by go_num,by go_num,rfl,congrArg Value.string (cat2Q O [c]),HTT.out,HBo.out⟩
       case measure=>simp [intOf];omega
      ·clear c3
       cases g3:(c == 32)
       all_goals
        go_wp2_with fail
        go_roundw
        case rel=>exact ⟨i+1,O++[c],true,by omega,by go_num,by go_num,rfl,congrArg Value.string (cat2Q O [c]),HTT.out,HBo.out⟩
        case measure=>simp [intOf];omega
  ·obtain rfl:i=l.length:=by omega
   have t1:decide ((l.length:Int)<(l.length:Int))=false:=decide_eq_false (by omega)
   rw [List.drop_length] at ht
   have HF:=hid (show O=TX from by rw [<- ht];simp [spM])
   clear ht hbr
   go_wp2_with fail
   go_ret
   exact ⟨by rw [HF.out];rfl,HBo.out⟩
theorem spread_any (l ns:Bs) (v:Value) (w:World) (hv:Bys (·<w.heap.size) w v ns) (hl:l.length<=1500) :
  Calls Tryz.prog 31 #[.string ⟨l.toArray⟩,v] w fun e w'=>e=.returned (.string ⟨(spB ns l).toArray⟩)/\Below w.heap.size w w':=by
 unfold spB
 by_cases hn:ns=[]
 ·rw [if_pos hn]
  subst hn
  obtain ⟨p,cp,rfl,h1,h2,h3,hr⟩:=hv.op
  have HR:=hid hr
  clear hr hv h1 h3
  go_enter Tryz.func31,Tryz.ntmps31
  go_wp2_with fail
  go_ret
  exact ⟨rfl,Below.refl _ _⟩
 ·rw [if_neg hn]
  exact spread_some l ns v w hv hl hn
end Go.Proofs.YtoofbgoeipijcaaGreatDoor
