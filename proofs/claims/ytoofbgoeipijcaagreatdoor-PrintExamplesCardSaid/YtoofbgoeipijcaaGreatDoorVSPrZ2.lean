/-
 A part.
-/
import Derived.Test.YtoofbgoeipijcaaGreatDoorVSPrZ
import Derived.Test.YtoofbgoeipijcaaGreatDoorVB27
import Derived.Lib.AppendIntMem
namespace Go.Proofs.YtoofbgoeipijcaaGreatDoor
set_option maxRecDepth 100000
set_option maxHeartbeats 4000000
set_option linter.all false
open Go.RowKit Go.Shelf
attribute [local go_sem] Oper.semAt_some
theorem itoaP_any (n:Int) (w:World) (h0 : -9223372036854775808<=n) (h1:n<=9223372036854775807) (hp:Lib.TabIs Tryz.prog w "internal/strconv.uint64pow10" .u64 Lib.pow10Tab) :
  Calls Tryz.prog 47 #[.int .i64 n] w fun e w'=>e=.returned (.string ⟨(Lib.itoa n).toArray⟩)/\Below w.heap.size w w' :=
 (Tryz.strconv_Itoa n h0 h1 w hp).mono fun e w' ⟨he,k,os,hw⟩=>⟨he,by rw [hw];exact Lib.below_grow _ _ lrf _ _⟩
theorem info_fuG:(Tryz.prog.info? 74).map (fun i=>(i.zero,i.size,i.bytes))=some (some (.agg #[.string ⟨#[]⟩,.slice none 0 0,.slice none 0 0,.int .i64 0,.int .i64 0]),5,80):=by kernel_rfl
theorem SlG.ofOwn {α:Type} {K:EK α} {R:Nat->Prop} {B e:Nat} {w:World} {v:Value} {l:List α} {css:List (List Value)} (h1:Each K R w css l) (h2:w.ownsRow B e K.n v l.length css.flatten) (hl:l.length<=140737488355328) (hR:∀ k,v.ownBlock=some k->R k):SlG K R w v l:=by
 refine ⟨css,h1,?_⟩
 obtain ⟨hlen,h3⟩:=h2
 rcases h3 with ⟨rfl,h0⟩ | ⟨g,cap,cur,rfl,hb,hg,hnc,hcm,hcs,ht⟩
 ·obtain rfl:=List.eq_nil_of_length_eq_zero h0
  have hc0:css=[]:=List.eq_nil_of_length_eq_zero (by rw [h1.1];rfl)
  subst hc0
  exact ⟨none,0,rfl,Nat.le_refl _,Nat.zero_le _,Nat.zero_le _,.inl rfl⟩
 ·refine ⟨_,cap,rfl,hnc,hcm,hl,.inr ⟨g,0,rfl,hR g rfl,fun j hj=>?_⟩⟩
  rw [Nat.zero_add,cell_of_row w g j cur e (0,0) hg]
  have e1:(cur.toList.take (l.length*K.n))[j]?=some css.flatten[j]:=by rw [ht];exact List.getElem?_eq_getElem hj
  rw [List.getElem?_take] at e1
  split at e1
  ·simpa using e1
  ·cases e1
theorem own_box {B e b n:Nat} {W:World} {cs:List Value} (h:BxL e b cs W) (hB:B<=b) (hn:cs.length=n):W.ownsRow B e n (.slice (some ⟨b,0,none⟩) 1 1) 1 cs :=
 ⟨by omega,.inr ⟨b,1,cs.toArray,rfl,hB,h,Nat.le_refl _,by unfold maxLen;omega,by simp [hn],by rw [Nat.one_mul,<- hn];simp⟩⟩
theorem parP_cat (D:Bs) (k:Nat) (h:Lib.itoa (k:Int)=D):Value.string ((⟨#[112]⟩:ByteArray)++⟨D.toArray⟩)=sv (parP k):=by
 unfold sv parP
 rw [h,ByteArray.mk_append_mk]
theorem instr_4f (x:In) (v:Value) (w:World) (hkd:x.kind=4/\x.nm=[102]/\x.args.length<=100000) (h8:x.kind<=255/\x.op<=255) (hn:∀ a ∈ x.args,a.num<18446744073709551616) (h:SlG kAg (·<w.heap.size) w v x.args) (hE:PrE w) :
  Calls Tryz.prog 61 #[.agg #[.int .u8 (x.kind:Int),.int .u8 (x.op:Int),.string ⟨x.dst.toArray⟩,.string ⟨x.nm.toArray⟩,v,.int .i64 x.pos.1,.int .i64 x.pos.2]] w fun e w'=>e=.returned (.tuple #[.string ⟨(instrM x).1.toArray⟩,.int .i64 (instrM x).2])/\Below w.heap.size w w':=by
 obtain ⟨pa,ca,rfl⟩:=h.slc
 have HSL:=hid h;have HE:=hid hE;have HNU:=hid hn;have H8:=hid h8;have HKD:=hid hkd
 have t5:((x.kind:Int) == 5)=false:=by have:=HKD.1;simp;omega
 have t6:((x.kind:Int) == 6)=false:=by have:=HKD.1;simp;omega
 have t2:((x.kind:Int) == 2)=false:=by have:=HKD.1;simp;omega
 have t3:((x.kind:Int) == 3)=false:=by have:=HKD.1;simp;omega
 have t4:((x.kind:Int) == 4)=true:=by have:=HKD.1;simp;omega
 clear h hE hn h8 hkd
 go_enter Tryz.func61,Tryz.ntmps61
 go_upto_region 1 with fail
 obtain ⟨wo,hwo⟩:∃ W,w.alloc (.cells #[.int .u8 (x.kind:Int),.int .u8 (x.op:Int),.string ⟨x.dst.toArray⟩,.string ⟨x.nm.toArray⟩,.slice pa x.args.length ca,.int .i64 x.pos.1,.int .i64 x.pos.2] 41)=W:=⟨_,rfl⟩
 have HX0:=hid (show BxL 41 w.heap.size (inL x (.slice pa x.args.length ca)) wo from by rw [<- hwo];exact BxL.new _ _ _)
 have HB0:=hid (show Below w.heap.size w wo from by rw [<- hwo];exact bA)
 rw [hwo]
 clear hwo
 obtain ⟨n0,n1,n2,n3,n4,n5,n6⟩:=HX0.p7
 have HSO:=hid (HSL.below HB0.out)
 go_upto_region 3 with (go_at_call 95;(refine (alone_any x _ _ HSO.out).mono ?_);rintro e w1 ⟨bi,bf,hi1,hf1,hne,rfl,hbi,hbf,hb1⟩;have HI1:=hid hbi;have HF1:=hid hbf;have HB1:=hid (HB0.out.trans (hb1.mono HB0.out.size));have HX1:=hid (HX0.out.bel hb1);have HGE:=hid (And.intro hi1 (And.intro hf1 hne));have q0:∀ o,(w1.alloc o).cell? ⟨w.heap.size,0,none⟩=some (.int .u8 (x.kind:Int)):=fun o=>(HX1.out.al o).at 0 rfl;clear hi1 hf1 hne hbi hbf hb1)
 clear n0 n1 n2 n3 n4 n5 n6 q0
 obtain ⟨b4,hb4⟩:∃ b,w1.heap.size=b:=⟨_,rfl⟩
 have HBF:=hid (show bf<b4/\bi<b4/\w.heap.size<b4 from ⟨by rw [<- hb4];exact HF1.lt,by rw [<- hb4];exact HI1.lt,by rw [<- hb4];exact HX1.lt⟩)
 obtain ⟨w2,hw2⟩:∃ W,w1.alloc (.cells #[.int .i64 1,.slice none 0 0,.slice none 0 0,.slice (some ⟨bf,0,none⟩) 1 1,.slice none 0 0] 27)=W:=⟨_,rfl⟩
 have HB2:=hid (show Below w.heap.size w w2 from by rw [<- hw2];exact HB1.alloc HB1.size _)
 have HX2:=hid (show BxL 41 w.heap.size (inL x (.slice pa x.args.length ca)) w2 from by rw [<- hw2];exact HX1.al _)
 have HI2:=hid (show BxL 41 bi (inL { x with pos:=(1,1) } (.slice pa x.args.length ca)) w2 from by rw [<- hw2];exact HI1.al _)
 have HF2:=hid (show BxL 74 bf [.string ⟨#[102]⟩,.slice none 0 0,.slice (some ⟨bi,0,none⟩) 1 1,.int .i64 0,.int .i64 0] w2 from by rw [<- hw2];exact HF1.al _)
 have HP2:=hid (show BxL 27 b4 [.int .i64 1,.slice none 0 0,.slice none 0 0,.slice (some ⟨bf,0,none⟩) 1 1,.slice none 0 0] w2 from by rw [<- hw2,<- hb4];exact BxL.new _ _ _)
 have HS4:=hid (show w2.heap.size=b4+1 from by rw [<- hw2,<- hb4,sA])
 rw [hw2,hb4]
 clear hw2 hb4
 have HBO:=hid (show w.heap.size<=bf from Nat.le_trans HB0.size HGE.2.1)
 have HBN:=hid (show bf ≠ w.heap.size from fun e=>by have h1:=HX2.out;have h2:=HF2.out;rw [e] at h2;unfold BxL at h1 h2;rw [h1] at h2;simp at h2)
 have m3:w2.cell? ⟨w.heap.size,3,none⟩=some (.string ⟨x.nm.toArray⟩):=HX2.at 3 rfl
 go_upto_region 11 with fail
 clear m3
 obtain ⟨g,hg⟩:∃ b,w2.heap.size=b:=⟨_,rfl⟩
 have HG:=hid (show g=b4+1 from by rw [<- hg];exact HS4.out)
 rw [hg]
 obtain ⟨w3,hw3⟩:∃ W,w2.alloc (.cells #[.string ⟨x.nm.toArray⟩,.slice none 0 0,.slice none 0 0,.int .i64 0,.int .i64 0] 74)=W:=⟨_,rfl⟩
 have HB3:=hid (show Below w.heap.size w w3 from by rw [<- hw3];exact HB2.alloc HB2.size _)
 have HX3:=hid (show BxL 41 w.heap.size (inL x (.slice pa x.args.length ca)) w3 from by rw [<- hw3];exact HX2.al _)
 have HI3:=hid (show BxL 41 bi (inL { x with pos:=(1,1) } (.slice pa x.args.length ca)) w3 from by rw [<- hw3];exact HI2.al _)
 have HF3:=hid (show BxL 74 bf [.string ⟨#[102]⟩,.slice none 0 0,.slice (some ⟨bi,0,none⟩) 1 1,.int .i64 0,.int .i64 0] w3 from by rw [<- hw3];exact HF2.al _)
 have HP3:=hid (show BxL 27 b4 [.int .i64 1,.slice none 0 0,.slice none 0 0,.slice (some ⟨bf,0,none⟩) 1 1,.slice none 0 0] w3 from by rw [<- hw3];exact HP2.al _)
 have HG3:=hid (show BxL 74 g [.string ⟨x.nm.toArray⟩,.slice none 0 0,.slice none 0 0,.int .i64 0,.int .i64 0] w3 from by rw [<- hw3,<- hg];exact BxL.new _ _ _)
 have HS3:=hid (show w3.heap.size=g+1 from by rw [<- hw3,sA,hg])
 rw [hw3]
 clear hw3 hg
 have HEP:=hid (show ∀ W,Below g w3 W->Lib.TabIs Tryz.prog W "internal/strconv.uint64pow10" .u64 Lib.pow10Tab from fun W hb=>(HE.below (HB3.trans (hb.mono (by have:=HBF.out;have:=HG.out;omega)))).pow)
 have m4:w3.cell? ⟨w.heap.size,4,none⟩=some (.slice pa x.args.length ca):=HX3.at 4 rfl
 go_wp2_with fail
 clear m4
 go_loopw [6,36] (fun v6 iv wr=>∃ k:Nat,k<=x.args.length/\iv=.int .i64 (k:Int)/\(∃ pv,GA kStr (g+1) 9 wr pv ((List.range k).map parP)/\BxL 74 g [.string ⟨x.nm.toArray⟩,pv,.slice none 0 0,.int .i64 0,.int .i64 0] wr)/\Below g w3 wr) (fun _ iv _=>x.args.length - (intOf iv).toNat)
 case atStart=>exact ⟨0,Nat.zero_le _,rfl,⟨_,GA.nil _ _ _ _,HG3.out⟩,Below.refl _ _⟩
 case round =>
  obtain ⟨k,hk,rfl,⟨pv,hga,hgx⟩,hbr⟩:=hrel
  obtain ⟨T,hT⟩:∃ T,(List.range k).map parP=T:=⟨_,rfl⟩
  rw [hT] at hga
  have HTD:=hid hT
  clear hT
  obtain ⟨po,co,rfl⟩:=hga.slc
  by_cases hlt:k<x.args.length
  ·have HSN:=hid (show (List.range (k+1)).map parP=T++[parP k] from by rw [List.range_succ,List.map_append,HTD.out];rfl)
   have hk9:k<100000:=by have:=HKD.2.2;omega
   have HCL:=hid (show T.length<=100000 from by rw [<- HTD.out,List.length_map,List.length_range];omega)
   have HLT:=hid hlt
   have HXD:=hid (show BxL 74 g [.string ⟨x.nm.toArray⟩,.slice po T.length co,.slice none 0 0,.int .i64 0,.int .i64 0] wr.drew from hgx)
   have HGD:=hid (show GA kStr (g+1) 9 wr.drew (.slice po T.length co) T from hga.keep (Below.refl _ _).drew)
   have HBD:=hid (show Below g w3 wr.drew from hbr.trans ((Below.refl wr.heap.size wr).drew.mono (by have:=hbr.size;have:=HS3.out;omega)))
   clear hga hgx hbr HTD
   obtain ⟨D,hD⟩:∃ D,Lib.itoa (k:Int)=D:=⟨_,rfl⟩
   have hD1:D.length<=21:=by rw [<- hD];exact Lib.itoa_length_le _ (by omega) (by omega)
   have HD:=hid hD
   have hk1:¬ 9223372036854775807<1+D.length:=by omega
   have HK9:=hid hk9
   clear hD hk9
   go_upto_region 14 with fail
   clear hlt
   have HKS:=hid (show T.length+1=(T++[parP k]).length from by simp)
   have hS:(fun W=>W.cell? ⟨g,1,none⟩=some (.slice po T.length co)) wr.drew:=HXD.at 1 rfl
   have hFa:=fT
   refine rgN (fun W=>W.cell? ⟨g,1,none⟩=some (.slice po T.length co)) 8 (by kernel_rfl) ?_
   simp only [zP,Nat.reduceAdd]
   refine wpHJ_pure (v:=?v0) 0 hFa rfl (by kernel_rfl) nE (Or.inl ⟨by rfl,?y0⟩) (.inr hS) ?r0
   case y0=>(intro w' _;go_simp;try rfl)
   simp only [aP]
   refine wpHJ_take (v:=?v1) 1 hFa rfl (by kernel_rfl) nE (Or.inl ⟨by rfl,?y1⟩) hS ?r1
   case y1=>(rintro w' s0;go_simp;try rfl)
   simp only [aP]
   refine wpHJ_pure (v:=?v2) 2 hFa rfl (by kernel_rfl) nE (Or.inl ⟨by rfl,?y2⟩) (.inr hS) ?r2
   case y2=>(intro w' _;go_simp;try rfl)
   simp only [aP]
   refine oy 3 fun K hK=>?_
   go_simp
   (with_reducible refine (callsIn_wide.2 (itoaP_any (k:Int) wr.drew (by omega) (by have:=HK9.out;omega) (HEP.out wr.drew HBD.out))).mono ?_)
   rintro e w9 ⟨rfl,hb9⟩
   rw [HD.out]
   have HB9:=hid (HBD.trans (hb9.mono (by have:=HXD.lt;omega)))
   have HX9:=hid (HXD.bel hb9)
   have HG9:=hid (HGD.keep hb9)
   clear hb9
   refine hK _ _ (.inr (.inr (HX9.at 1 rfl))) ?_
   clear hK K
   refine wpHJ_pure (v:=?v3) 4 hFa rfl (by kernel_rfl) nE (Or.inl ⟨by rfl,?y3⟩) (.inr (HX9.at 1 rfl)) ?r3
   case y3=>(intro w' _;go_simp;try rfl)
   simp only [aP]
   refine oy 5 fun K hK=>?_
   go_simp
   refine hK _ _ (.inr (.inr ((HX9.al _).at 1 rfl))) ?_
   clear hK K
   refine oy 6 fun K hK=>?_
   refine wpIn_apd hFa (.tmp 40) (.tmp 44) 22 rfl (g+1) 9 (.string ⟨#[]⟩) 16 Tryz.underlying22 info_strG rfl (.slice po T.length co) T.length _ rfl (HG9.strs.alloc _) (some ⟨w9.heap.size,0,none⟩) 1 1 [.string ((⟨#[112]⟩:ByteArray)++⟨D.toArray⟩)] rfl rfl (RowR.lit (R:=fun _=>True) w9 [.string ((⟨#[112]⟩:ByteArray)++⟨D.toArray⟩)] 9 trivial) (by simp [Value.oneCell']) (by have:=HCL.out;omega) (by have:=HCL.out;unfold maxLen;omega) (by rw [sA];have:=HX9.lt;omega) ?_
   intro v5 w5 ho5 hg5 hv5
   simp only [aP]
   rw [parP_cat D k HD.out] at ho5
   obtain ⟨p5,c5,rfl⟩:=own_sliceG ho5
   have hga5:=(World.grownBy_alloc w9 (.cells #[.string ((⟨#[112]⟩:ByteArray)++⟨D.toArray⟩)] 9) (Value.slice po T.length co).ownBlock).trans hg5
   have HX5:=hid (HX9.keep (hga5.block g HX9.lt (fun e=>by have:=(HG9.lt g e.symm).1;omega)))
   have HB5:=hid (HB9.grown hga5 (by have:=HX9.lt;omega) (fun i hi=>by have:=(HG9.lt i hi).1;omega))
   have HO5:=hid ho5
   have HS5:=hid hga5.size
   clear ho5 hg5 hv5 hga5
   have z1:w5.frozen? ⟨g,1,none⟩=false:=HX5.fr 1
   have z2:w5.cell? ⟨g,1,none⟩=some (.slice po T.length co):=HX5.at 1 rfl
   refine hK _ _ (.inr (.inr (HX5.at 1 rfl))) ?_
   clear hK K
   refine wpHJ_pure (v:=?v4) 7 hFa rfl (by kernel_rfl) nE (Or.inl ⟨by rfl,?y4⟩) (.inr (HX5.at 1 rfl)) ?r4
   case y4=>(intro w' _;go_simp;try rfl)
   simp only [aP]
   refine oy 8 fun K hK=>?_
   go_simp
   refine hK _ _ (.inl rfl) (dN ?_)
   clear hK K
   simp only [onlyN,Exit.then]
   clear hFa
   clear hS z1 z2
   go_wp2_with fail
   go_roundw
   case rel =>
    refine ⟨k+1,HLT.out,by rw [wrap_next HLT.out HSL.len],⟨.slice p5 (T.length+1) c5,?_,?_⟩,?_⟩
    ·rw [HSN.out]
     refine GA.ofStrs ?_
     rw [List.map_append,List.length_append]
     exact owns_keepG HO5.out (fun j hj=>heap_ot (fun e=>by have:=(HO5.lt j hj).1;omega) _)
    ·exact HX5.set 1 _
    ·exact HB5.setCell (p:=⟨g,1,none⟩) lrf _
   case measure=>exact meas_next HLT.out HSL.len
  ·obtain rfl:k=x.args.length:=by omega
   have HBR:=hid hbr;have HGR:=hid hga;have HGX:=hid hgx
   clear hlt hbr hga hgx
   have HTL:=hid (show T.length<=100000 from by rw [<- HTD.out,List.length_map,List.length_range];exact HKD.2.2)
   have HXr:=hid (HX3.keep (HBR.block w.heap.size (by have:=HBF.out;have:=HG.out;omega)))
   have HIr:=hid (HI3.keep (HBR.block bi (by have:=HBF.out;have:=HG.out;omega)))
   have HFr:=hid (HF3.keep (HBR.block bf (by have:=HBF.out;have:=HG.out;omega)))
   have HPr:=hid (HP3.keep (HBR.block b4 (by have:=HBF.out;have:=HG.out;omega)))
   have HBr:=hid (HB3.trans (HBR.mono (by have:=HBF.out;have:=HG.out;omega)))
   have r3:wr.cell? ⟨w.heap.size,3,none⟩=some (.string ⟨x.nm.toArray⟩):=HXr.at 3 rfl
   have q0:(⟨x.nm.toArray⟩:ByteArray)=⟨#[102]⟩:=by rw [HKD.2.1]
   rw [q0] at r3
   have r4:wr.cell? ⟨b4,3,none⟩=some (.slice (some ⟨bf,0,none⟩) 1 1):=HPr.at 3 rfl
   have r5:wr.cell? ⟨bf,0,none⟩=some (.string ⟨#[102]⟩):=HFr.at 0 rfl
   have r6:wr.frozen? ⟨bf,0,none⟩=false:=HFr.fr 0
   go_upto_region 18 with fail
   clear q0 r3 r4 r5 r6
   obtain ⟨w6,hw6⟩:∃ W,wr.setCell ⟨bf,0,none⟩ (.string ⟨#[103]⟩)=W:=⟨_,rfl⟩
   have hne:=HGE.2.2
   have HX6:=hid (show BxL 41 w.heap.size (inL x (.slice pa x.args.length ca)) w6 from by rw [<- hw6];exact HXr.keep (heap_ot (by have:=HXr.out;intro e;have:=HBN.out;omega) _))
   have HI6:=hid (show BxL 41 bi (inL { x with pos:=(1,1) } (.slice pa x.args.length ca)) w6 from by rw [<- hw6];exact HIr.keep (heap_ot hne _))
   have HF6:=hid (show BxL 74 bf [.string ⟨(aloneF x).nm.toArray⟩,.slice none 0 0,.slice (some ⟨bi,0,none⟩) 1 1,.int .i64 0,.int .i64 0] w6 from by
    have e:(aloneF x).nm=[103]:=by unfold aloneF;simp only;rw [if_pos ⟨HKD.1,HKD.2.1⟩]
    rw [e,<- hw6];exact HFr.set 0 _)
   have HP6:=hid (show BxL 27 b4 [.int .i64 1,.slice none 0 0,.slice none 0 0,.slice (some ⟨bf,0,none⟩) 1 1,.slice none 0 0] w6 from by rw [<- hw6];exact HPr.keep (heap_ot (by have:=HBF.out;omega) _))
   have HG6:=hid (show BxL 74 g [.string ⟨x.nm.toArray⟩,.slice po T.length co,.slice none 0 0,.int .i64 0,.int .i64 0] w6 from by rw [<- hw6];exact HGX.keep (heap_ot (by have:=HBF.out;have:=HG.out;omega) _))
   have HO6:=hid (show w6.ownsRow (g+1) 9 1 (.slice po T.length co) T.length (T.map sv) from by rw [<- hw6];exact owns_keepG HGR.strs fun j hj=>heap_ot (by have:=(HGR.lt j hj).1;have:=HBF.out;have:=HG.out;omega) _)
   have HB6:=hid (show Below w.heap.size w w6 from by rw [<- hw6];exact HBr.setCell (p:=⟨bf,0,none⟩) HBO.out _)
   rw [hw6]
   clear hw6 hne
   have HOB:=hid (fun o=>own_box (B:=w.heap.size) (n:=5) (HF6.al o) HBO.out rfl)
   have s0:w6.cell? ⟨b4,3,none⟩=some (.slice (some ⟨bf,0,none⟩) 1 1):=HP6.at 3 rfl
   obtain ⟨s1,s2,s3,s4,s5⟩:=HG6.p5
   go_upto_region 19 with (at_builtin;refine wpList_appG (R:=fun _=>True) _ rfl _ _ 24 rfl w.heap.size 74 _ 5 80 Tryz.underlying24 info_fuG rfl (by decide) (.slice (some ⟨bf,0,none⟩) 1 1) 1 [.string ⟨(aloneF x).nm.toArray⟩,.slice none 0 0,.slice (some ⟨bi,0,none⟩) 1 1,.int .i64 0,.int .i64 0] rfl (HOB.out _) ⟨w6.heap.size,0,none⟩ 1 1 [.string ⟨x.nm.toArray⟩,.slice po T.length co,.slice none 0 0,.int .i64 0,.int .i64 0] rfl rfl (RowR.lit (R:=fun _=>True) w6 [.string ⟨x.nm.toArray⟩,.slice po T.length co,.slice none 0 0,.int .i64 0,.int .i64 0] 74 trivial) (by simp [Value.oneCell']) (by omega) (by unfold maxLen;omega) (by rw [sA];have:=HX6.out.lt;omega) ?_;intro v8 w8 ho8 hg8 hv8;obtain ⟨p8,c8,rfl⟩:=own_sliceG ho8;have HO8:=hid ho8;have HV8:=hid hv8;have hga8:=(World.grownBy_alloc w6 (.cells #[.string ⟨x.nm.toArray⟩,.slice po T.length co,.slice none 0 0,.int .i64 0,.int .i64 0] 74) (Value.slice (some ⟨bf,0,none⟩) 1 1).ownBlock).trans hg8;have HK8:=hid (show ∀ j,j<w6.heap.size->j ≠ bf->w8.heap[j]?=w6.heap[j]? from fun j h1 h2=>hga8.block j h1 (fun e=>h2 (by cases e;rfl)));have HS8:=hid hga8.size;have HB8:=hid (HB6.out.grown hga8 HB6.out.size (fun i hi=>by cases hi;exact HBO.out));have HP8:=hid (HP6.out.keep (HK8.out b4 HP6.out.lt (by have:=HBF.out;omega)));have u1:w8.cell? ⟨b4,3,none⟩=some (.slice (some ⟨bf,0,none⟩) 1 1):=HP8.out.at 3 rfl;have u2:w8.frozen? ⟨b4,3,none⟩=false:=HP8.out.fr 3;clear ho8 hg8 hv8 hga8 s0 s1 s2 s3 s4 s5)
   clear u1 u2
   have HN8:=hid (show ∀ j,(Value.slice p8 (1+1) c8).ownBlock=some j->j=bf\/w6.heap.size<j from fun j hj=>by
    rcases HV8.out with e | e
    ·rw [e] at hj;cases hj;exact .inl rfl
    ·rw [e] at hj;cases hj;right;rw [sA];omega)
   obtain ⟨w9,hw9⟩:∃ W,w8.setCell ⟨b4,3,none⟩ (.slice p8 2 c8)=W:=⟨_,rfl⟩
   have hk9:∀ j,j<w6.heap.size->j ≠ bf->j ≠ b4->w9.heap[j]?=w6.heap[j]?:=fun j h1 h2 h3=>by rw [<- hw9,heap_ot h3];exact HK8.out j h1 h2
   have hz9:w9.heap.size=w8.heap.size:=by rw [<- hw9,World.size_setCell]
   have hlt9:w6.heap.size<=w9.heap.size:=by rw [hz9];exact HS8.out
   have HBW:=hid (show Below w.heap.size w w9 from by rw [<- hw9];exact HB8.setCell (p:=⟨b4,3,none⟩) (by have:=HBF.out;show w.heap.size<=b4;omega) _)
   have HXW:=hid (show BxL 41 w.heap.size (inL x (.slice pa x.args.length ca)) w9 from HX6.keep (hk9 _ HX6.lt (fun e=>by have:=HBN.out;omega) (by have:=HBF.out;omega)))
   have HI9:=hid (show BxL 41 bi (inL { x with pos:=(1,1) } (.slice pa x.args.length ca)) w9 from HI6.keep (hk9 _ HI6.lt HGE.2.2 (by have:=HBF.out;omega)))
   have HPB:=hid (show BxL 27 b4 [.int .i64 1,.slice none 0 0,.slice none 0 0,.slice p8 2 c8,.slice none 0 0] w9 from by rw [<- hw9];exact HP8.set 3 _)
   have HEW:=hid (HE.below HBW.out)
   have HF9:=hid (show SlG kFu (·<w9.heap.size) w9 (.slice p8 2 c8) [aloneF x,aloneG x] from by
    have ho9:w9.ownsRow w.heap.size 74 5 (.slice p8 2 c8) 2 ([.string ⟨(aloneF x).nm.toArray⟩,.slice none 0 0,.slice (some ⟨bi,0,none⟩) 1 1,.int .i64 0,.int .i64 0]++[.string ⟨x.nm.toArray⟩,.slice po T.length co,.slice none 0 0,.int .i64 0,.int .i64 0]):=by
     rw [<- hw9]
     exact owns_keepG HO8.out fun j hj=>heap_ot (by have:=HP6.lt;have:=HBF.out;rcases HN8.out j hj with e | e <;> omega) _
    have hp9:SlG kStr (·<w9.heap.size) w9 (.slice po T.length co) T:=by
     refine (GA.ofStrs (owns_keepG HO6.out fun j hj=>hk9 j (HO6.lt j hj).2 (by have:=(HO6.lt j hj).1;have:=HBF.out;have:=HG.out;omega) (by have:=(HO6.lt j hj).1;have:=HG.out;omega))).sl (by have:=HTL.out;omega)
    refine SlG.ofOwn (K:=kFu) (css:=[[.string ⟨(aloneF x).nm.toArray⟩,.slice none 0 0,.slice (some ⟨bi,0,none⟩) 1 1,.int .i64 0,.int .i64 0],[.string ⟨x.nm.toArray⟩,.slice po T.length co,.slice none 0 0,.int .i64 0,.int .i64 0]]) ⟨rfl,fun i hi hi'=>?_⟩ ho9 (by simp) (fun k hk=>by
     have:=ho9.lt k hk;exact this.2)
    rcases i with _ | _ | i
    ·exact ⟨_,_,rfl,SlG.nil,SlG.box HI9.out ⟨(.slice pa x.args.length ca),rfl,HSL.below HBW.out⟩ HI9.lt⟩
    ·exact ⟨_,_,rfl,by show SlG kStr (·<w9.heap.size) w9 (.slice po T.length co) (aloneG x).params;rw [show (aloneG x).params=T from HTD.out];exact hp9,SlG.nil⟩
    ·simp at hi;omega)
   rw [hw9]
   clear hw9 hk9 hz9 hlt9
   have HPG:=hid (show PgV (·<w9.heap.size) w9 (.slice none 0 0) (.slice none 0 0) (.slice p8 2 c8) (.slice none 0 0) (aloneP x) from by
    have hk:=HKD.1
    unfold aloneP
    rw [if_neg (by omega),if_neg (by omega),if_pos hk]
    exact ⟨SlG.nil,SlG.nil,HF9.out,SlG.nil⟩)
   have HOK:=hid (alone_ok x H8.out)
   obtain ⟨y0,y1,y2,y3,y4⟩:=HPB.p5
   cases hfb:formB x with
   | true =>
    have HFB:=hid hfb
    have hg:=alone_good x hfb
    have g4:((checkM (aloneP x)).2 == 4)=false:=by rw [beq_eq_false_iff_ne];exact hg.1
    have g5:((checkM (aloneP x)).2 == 5)=false:=by rw [beq_eq_false_iff_ne];exact hg.2
    have HM:=hid (show instrM x=(lineM x,0) from by unfold instrM;rw [if_pos hfb])
    clear hg hfb
    go_wp2_with (first
     | (go_at_call 34;(refine (check_any (aloneP x) _ _ _ _ _ HEW.out HPG.out HOK.out).mono ?_);rintro e w3 ⟨rfl,hb3⟩;have HB3:=hid (HBW.out.trans (hb3.mono HBW.out.size));have z0:∀ o,(w3.alloc o).cell? ⟨w.heap.size,0,none⟩=some (.int .u8 (x.kind:Int)):=fun o=>((HXW.out.bel hb3).al o).at 0 rfl;have z1:∀ o,(w3.alloc o).cell? ⟨w.heap.size,1,none⟩=some (.int .u8 (x.op:Int)):=fun o=>((HXW.out.bel hb3).al o).at 1 rfl;have z2:∀ o,(w3.alloc o).cell? ⟨w.heap.size,2,none⟩=some (.string ⟨x.dst.toArray⟩):=fun o=>((HXW.out.bel hb3).al o).at 2 rfl;have z3:∀ o,(w3.alloc o).cell? ⟨w.heap.size,3,none⟩=some (.string ⟨x.nm.toArray⟩):=fun o=>((HXW.out.bel hb3).al o).at 3 rfl;have z4:∀ o,(w3.alloc o).cell? ⟨w.heap.size,4,none⟩=some (.slice pa x.args.length ca):=fun o=>((HXW.out.bel hb3).al o).at 4 rfl;have z5:∀ o,(w3.alloc o).cell? ⟨w.heap.size,5,none⟩=some (.int .i64 x.pos.1):=fun o=>((HXW.out.bel hb3).al o).at 5 rfl;have z6:∀ o,(w3.alloc o).cell? ⟨w.heap.size,6,none⟩=some (.int .i64 x.pos.2):=fun o=>((HXW.out.bel hb3).al o).at 6 rfl;clear hb3)
     | (go_at_call 48;(refine (line_any x _ _ HFB.out HNU.out (HSL.out.below (HB3.out.alloc HB3.out.size _)) (HE.out.below (HB3.out.alloc HB3.out.size _))).mono ?_);rintro e w4 ⟨rfl,hb4⟩;have HB4:=hid ((HB3.out.alloc HB3.out.size _).trans (hb4.mono (HB3.out.alloc HB3.out.size _).size));clear hb4))
    go_ret2
    exact ⟨by rw [HM.out];rfl,HB4.out⟩
   | false =>
    have g4:((checkM (aloneP x)).2 == 4)=true:=by rw [alone_bad x hfb];rfl
    have HM:=hid (show instrM x=([],4) from by unfold instrM;rw [if_neg (by rw [hfb];decide)])
    clear hfb
    go_wp2_with (go_at_call 34;(refine (check_any (aloneP x) _ _ _ _ _ HEW.out HPG.out HOK.out).mono ?_);rintro e w3 ⟨rfl,hb3⟩;have HB3:=hid (HBW.out.trans (hb3.mono HBW.out.size));have z0:∀ o,(w3.alloc o).cell? ⟨w.heap.size,0,none⟩=some (.int .u8 (x.kind:Int)):=fun o=>((HXW.out.bel hb3).al o).at 0 rfl;have z1:∀ o,(w3.alloc o).cell? ⟨w.heap.size,1,none⟩=some (.int .u8 (x.op:Int)):=fun o=>((HXW.out.bel hb3).al o).at 1 rfl;have z2:∀ o,(w3.alloc o).cell? ⟨w.heap.size,2,none⟩=some (.string ⟨x.dst.toArray⟩):=fun o=>((HXW.out.bel hb3).al o).at 2 rfl;have z3:∀ o,(w3.alloc o).cell? ⟨w.heap.size,3,none⟩=some (.string ⟨x.nm.toArray⟩):=fun o=>((HXW.out.bel hb3).al o).at 3 rfl;have z4:∀ o,(w3.alloc o).cell? ⟨w.heap.size,4,none⟩=some (.slice pa x.args.length ca):=fun o=>((HXW.out.bel hb3).al o).at 4 rfl;have z5:∀ o,(w3.alloc o).cell? ⟨w.heap.size,5,none⟩=some (.int .i64 x.pos.1):=fun o=>((HXW.out.bel hb3).al o).at 5 rfl;have z6:∀ o,(w3.alloc o).cell? ⟨w.heap.size,6,none⟩=some (.int .i64 x.pos.2):=fun o=>((HXW.out.bel hb3).al o).at 6 rfl;clear hb3)
    go_ret2
    exact ⟨by rw [HM.out];rfl,HB3.alloc HB3.size _⟩
theorem instr_4n (x:In) (v:Value) (w:World) (hkd:x.kind=4/\¬ x.nm=[102]/\x.args.length<=100000) (h8:x.kind<=255/\x.op<=255) (hn:∀ a ∈ x.args,a.num<18446744073709551616) (h:SlG kAg (·<w.heap.size) w v x.args) (hE:PrE w) :
  Calls Tryz.prog 61 #[.agg #[.int .u8 (x.kind:Int),.int .u8 (x.op:Int),.string ⟨x.dst.toArray⟩,.string ⟨x.nm.toArray⟩,v,.int .i64 x.pos.1,.int .i64 x.pos.2]] w fun e w'=>e=.returned (.tuple #[.string ⟨(instrM x).1.toArray⟩,.int .i64 (instrM x).2])/\Below w.heap.size w w':=by
 obtain ⟨pa,ca,rfl⟩:=h.slc
 have HSL:=hid h;have HE:=hid hE;have HNU:=hid hn;have H8:=hid h8;have HKD:=hid hkd
 have t5:((x.kind:Int) == 5)=false:=by have:=HKD.1;simp;omega
 have t6:((x.kind:Int) == 6)=false:=by have:=HKD.1;simp;omega
 have t2:((x.kind:Int) == 2)=false:=by have:=HKD.1;simp;omega
 have t3:((x.kind:Int) == 3)=false:=by have:=HKD.1;simp;omega
 have t4:((x.kind:Int) == 4)=true:=by have:=HKD.1;simp;omega
 clear h hE hn h8 hkd
 go_enter Tryz.func61,Tryz.ntmps61
 go_upto_region 1 with fail
 obtain ⟨wo,hwo⟩:∃ W,w.alloc (.cells #[.int .u8 (x.kind:Int),.int .u8 (x.op:Int),.string ⟨x.dst.toArray⟩,.string ⟨x.nm.toArray⟩,.slice pa x.args.length ca,.int .i64 x.pos.1,.int .i64 x.pos.2] 41)=W:=⟨_,rfl⟩
 have HX0:=hid (show BxL 41 w.heap.size (inL x (.slice pa x.args.length ca)) wo from by rw [<- hwo];exact BxL.new _ _ _)
 have HB0:=hid (show Below w.heap.size w wo from by rw [<- hwo];exact bA)
 rw [hwo]
 clear hwo
 obtain ⟨n0,n1,n2,n3,n4,n5,n6⟩:=HX0.p7
 have HSO:=hid (HSL.below HB0.out)
 go_upto_region 3 with (go_at_call 95;(refine (alone_any x _ _ HSO.out).mono ?_);rintro e w1 ⟨bi,bf,hi1,hf1,hne,rfl,hbi,hbf,hb1⟩;have HI1:=hid hbi;have HF1:=hid hbf;have HB1:=hid (HB0.out.trans (hb1.mono HB0.out.size));have HX1:=hid (HX0.out.bel hb1);have HGE:=hid (And.intro hi1 (And.intro hf1 hne));have q0:∀ o,(w1.alloc o).cell? ⟨w.heap.size,0,none⟩=some (.int .u8 (x.kind:Int)):=fun o=>(HX1.out.al o).at 0 rfl;clear hi1 hf1 hne hbi hbf hb1)
 clear n0 n1 n2 n3 n4 n5 n6 q0
 obtain ⟨b4,hb4⟩:∃ b,w1.heap.size=b:=⟨_,rfl⟩
 have HBF:=hid (show bf<b4/\bi<b4/\w.heap.size<b4 from ⟨by rw [<- hb4];exact HF1.lt,by rw [<- hb4];exact HI1.lt,by rw [<- hb4];exact HX1.lt⟩)
 obtain ⟨w2,hw2⟩:∃ W,w1.alloc (.cells #[.int .i64 1,.slice none 0 0,.slice none 0 0,.slice (some ⟨bf,0,none⟩) 1 1,.slice none 0 0] 27)=W:=⟨_,rfl⟩
 have HB2:=hid (show Below w.heap.size w w2 from by rw [<- hw2];exact HB1.alloc HB1.size _)
 have HX2:=hid (show BxL 41 w.heap.size (inL x (.slice pa x.args.length ca)) w2 from by rw [<- hw2];exact HX1.al _)
 have HI2:=hid (show BxL 41 bi (inL { x with pos:=(1,1) } (.slice pa x.args.length ca)) w2 from by rw [<- hw2];exact HI1.al _)
 have HF2:=hid (show BxL 74 bf [.string ⟨#[102]⟩,.slice none 0 0,.slice (some ⟨bi,0,none⟩) 1 1,.int .i64 0,.int .i64 0] w2 from by rw [<- hw2];exact HF1.al _)
 have HP2:=hid (show BxL 27 b4 [.int .i64 1,.slice none 0 0,.slice none 0 0,.slice (some ⟨bf,0,none⟩) 1 1,.slice none 0 0] w2 from by rw [<- hw2,<- hb4];exact BxL.new _ _ _)
 have HS4:=hid (show w2.heap.size=b4+1 from by rw [<- hw2,<- hb4,sA])
 rw [hw2,hb4]
 clear hw2 hb4
 have HBO:=hid (show w.heap.size<=bf from Nat.le_trans HB0.size HGE.2.1)
 have HBN:=hid (show bf ≠ w.heap.size from fun e=>by have h1:=HX2.out;have h2:=HF2.out;rw [e] at h2;unfold BxL at h1 h2;rw [h1] at h2;simp at h2)
 have m3:w2.cell? ⟨w.heap.size,3,none⟩=some (.string ⟨x.nm.toArray⟩):=HX2.at 3 rfl
 go_upto_region 11 with fail
 clear m3
 obtain ⟨g,hg⟩:∃ b,w2.heap.size=b:=⟨_,rfl⟩
 have HG:=hid (show g=b4+1 from by rw [<- hg];exact HS4.out)
 rw [hg]
 obtain ⟨w3,hw3⟩:∃ W,w2.alloc (.cells #[.string ⟨x.nm.toArray⟩,.slice none 0 0,.slice none 0 0,.int .i64 0,.int .i64 0] 74)=W:=⟨_,rfl⟩
 have HB3:=hid (show Below w.heap.size w w3 from by rw [<- hw3];exact HB2.alloc HB2.size _)
 have HX3:=hid (show BxL 41 w.heap.size (inL x (.slice pa x.args.length ca)) w3 from by rw [<- hw3];exact HX2.al _)
 have HI3:=hid (show BxL 41 bi (inL { x with pos:=(1,1) } (.slice pa x.args.length ca)) w3 from by rw [<- hw3];exact HI2.al _)
 have HF3:=hid (show BxL 74 bf [.string ⟨#[102]⟩,.slice none 0 0,.slice (some ⟨bi,0,none⟩) 1 1,.int .i64 0,.int .i64 0] w3 from by rw [<- hw3];exact HF2.al _)
 have HP3:=hid (show BxL 27 b4 [.int .i64 1,.slice none 0 0,.slice none 0 0,.slice (some ⟨bf,0,none⟩) 1 1,.slice none 0 0] w3 from by rw [<- hw3];exact HP2.al _)
 have HG3:=hid (show BxL 74 g [.string ⟨x.nm.toArray⟩,.slice none 0 0,.slice none 0 0,.int .i64 0,.int .i64 0] w3 from by rw [<- hw3,<- hg];exact BxL.new _ _ _)
 have HS3:=hid (show w3.heap.size=g+1 from by rw [<- hw3,sA,hg])
 rw [hw3]
 clear hw3 hg
 have HEP:=hid (show ∀ W,Below g w3 W->Lib.TabIs Tryz.prog W "internal/strconv.uint64pow10" .u64 Lib.pow10Tab from fun W hb=>(HE.below (HB3.trans (hb.mono (by have:=HBF.out;have:=HG.out;omega)))).pow)
 have m4:w3.cell? ⟨w.heap.size,4,none⟩=some (.slice pa x.args.length ca):=HX3.at 4 rfl
 go_wp2_with fail
 clear m4
 go_loopw [6,36] (fun v6 iv wr=>∃ k:Nat,k<=x.args.length/\iv=.int .i64 (k:Int)/\(∃ pv,GA kStr (g+1) 9 wr pv ((List.range k).map parP)/\BxL 74 g [.string ⟨x.nm.toArray⟩,pv,.slice none 0 0,.int .i64 0,.int .i64 0] wr)/\Below g w3 wr) (fun _ iv _=>x.args.length - (intOf iv).toNat)
 case atStart=>exact ⟨0,Nat.zero_le _,rfl,⟨_,GA.nil _ _ _ _,HG3.out⟩,Below.refl _ _⟩
 case round =>
  obtain ⟨k,hk,rfl,⟨pv,hga,hgx⟩,hbr⟩:=hrel
  obtain ⟨T,hT⟩:∃ T,(List.range k).map parP=T:=⟨_,rfl⟩
  rw [hT] at hga
  have HTD:=hid hT
  clear hT
  obtain ⟨po,co,rfl⟩:=hga.slc
  by_cases hlt:k<x.args.length
  ·have HSN:=hid (show (List.range (k+1)).map parP=T++[parP k] from by rw [List.range_succ,List.map_append,HTD.out];rfl)
   have hk9:k<100000:=by have:=HKD.2.2;omega
   have HCL:=hid (show T.length<=100000 from by rw [<- HTD.out,List.length_map,List.length_range];omega)
   have HLT:=hid hlt
   have HXD:=hid (show BxL 74 g [.string ⟨x.nm.toArray⟩,.slice po T.length co,.slice none 0 0,.int .i64 0,.int .i64 0] wr.drew from hgx)
   have HGD:=hid (show GA kStr (g+1) 9 wr.drew (.slice po T.length co) T from hga.keep (Below.refl _ _).drew)
   have HBD:=hid (show Below g w3 wr.drew from hbr.trans ((Below.refl wr.heap.size wr).drew.mono (by have:=hbr.size;have:=HS3.out;omega)))
   clear hga hgx hbr HTD
   obtain ⟨D,hD⟩:∃ D,Lib.itoa (k:Int)=D:=⟨_,rfl⟩
   have hD1:D.length<=21:=by rw [<- hD];exact Lib.itoa_length_le _ (by omega) (by omega)
   have HD:=hid hD
   have hk1:¬ 9223372036854775807<1+D.length:=by omega
   have HK9:=hid hk9
   clear hD hk9
   go_upto_region 14 with fail
   clear hlt
   have HKS:=hid (show T.length+1=(T++[parP k]).length from by simp)
   have hS:(fun W=>W.cell? ⟨g,1,none⟩=some (.slice po T.length co)) wr.drew:=HXD.at 1 rfl
   have hFa:=fT
   refine rgN (fun W=>W.cell? ⟨g,1,none⟩=some (.slice po T.length co)) 8 (by kernel_rfl) ?_
   simp only [zP,Nat.reduceAdd]
   refine wpHJ_pure (v:=?v0) 0 hFa rfl (by kernel_rfl) nE (Or.inl ⟨by rfl,?y0⟩) (.inr hS) ?r0
   case y0=>(intro w' _;go_simp;try rfl)
   simp only [aP]
   refine wpHJ_take (v:=?v1) 1 hFa rfl (by kernel_rfl) nE (Or.inl ⟨by rfl,?y1⟩) hS ?r1
   case y1=>(rintro w' s0;go_simp;try rfl)
   simp only [aP]
   refine wpHJ_pure (v:=?v2) 2 hFa rfl (by kernel_rfl) nE (Or.inl ⟨by rfl,?y2⟩) (.inr hS) ?r2
   case y2=>(intro w' _;go_simp;try rfl)
   simp only [aP]
   refine oy 3 fun K hK=>?_
   go_simp
   (with_reducible refine (callsIn_wide.2 (itoaP_any (k:Int) wr.drew (by omega) (by have:=HK9.out;omega) (HEP.out wr.drew HBD.out))).mono ?_)
   rintro e w9 ⟨rfl,hb9⟩
   rw [HD.out]
   have HB9:=hid (HBD.trans (hb9.mono (by have:=HXD.lt;omega)))
   have HX9:=hid (HXD.bel hb9)
   have HG9:=hid (HGD.keep hb9)
   clear hb9
   refine hK _ _ (.inr (.inr (HX9.at 1 rfl))) ?_
   clear hK K
   refine wpHJ_pure (v:=?v3) 4 hFa rfl (by kernel_rfl) nE (Or.inl ⟨by rfl,?y3⟩) (.inr (HX9.at 1 rfl)) ?r3
   case y3=>(intro w' _;go_simp;try rfl)
   simp only [aP]
   refine oy 5 fun K hK=>?_
   go_simp
   refine hK _ _ (.inr (.inr ((HX9.al _).at 1 rfl))) ?_
   clear hK K
   refine oy 6 fun K hK=>?_
   refine wpIn_apd hFa (.tmp 40) (.tmp 44) 22 rfl (g+1) 9 (.string ⟨#[]⟩) 16 Tryz.underlying22 info_strG rfl (.slice po T.length co) T.length _ rfl (HG9.strs.alloc _) (some ⟨w9.heap.size,0,none⟩) 1 1 [.string ((⟨#[112]⟩:ByteArray)++⟨D.toArray⟩)] rfl rfl (RowR.lit (R:=fun _=>True) w9 [.string ((⟨#[112]⟩:ByteArray)++⟨D.toArray⟩)] 9 trivial) (by simp [Value.oneCell']) (by have:=HCL.out;omega) (by have:=HCL.out;unfold maxLen;omega) (by rw [sA];have:=HX9.lt;omega) ?_
   intro v5 w5 ho5 hg5 hv5
   simp only [aP]
   rw [parP_cat D k HD.out] at ho5
   obtain ⟨p5,c5,rfl⟩:=own_sliceG ho5
   have hga5:=(World.grownBy_alloc w9 (.cells #[.string ((⟨#[112]⟩:ByteArray)++⟨D.toArray⟩)] 9) (Value.slice po T.length co).ownBlock).trans hg5
   have HX5:=hid (HX9.keep (hga5.block g HX9.lt (fun e=>by have:=(HG9.lt g e.symm).1;omega)))
   have HB5:=hid (HB9.grown hga5 (by have:=HX9.lt;omega) (fun i hi=>by have:=(HG9.lt i hi).1;omega))
   have HO5:=hid ho5
   have HS5:=hid hga5.size
   clear ho5 hg5 hv5 hga5
   have z1:w5.frozen? ⟨g,1,none⟩=false:=HX5.fr 1
   have z2:w5.cell? ⟨g,1,none⟩=some (.slice po T.length co):=HX5.at 1 rfl
   refine hK _ _ (.inr (.inr (HX5.at 1 rfl))) ?_
   clear hK K
   refine wpHJ_pure (v:=?v4) 7 hFa rfl (by kernel_rfl) nE (Or.inl ⟨by rfl,?y4⟩) (.inr (HX5.at 1 rfl)) ?r4
   case y4=>(intro w' _;go_simp;try rfl)
   simp only [aP]
   refine oy 8 fun K hK=>?_
   go_simp
   refine hK _ _ (.inl rfl) (dN ?_)
   clear hK K
   simp only [onlyN,Exit.then]
   clear hFa
   clear hS z1 z2
   go_wp2_with fail
   go_roundw
   case rel =>
    refine ⟨k+1,HLT.out,by rw [wrap_next HLT.out HSL.len],⟨.slice p5 (T.length+1) c5,?_,?_⟩,?_⟩
    ·rw [HSN.out]
     refine GA.ofStrs ?_
     rw [List.map_append,List.length_append]
     exact owns_keepG HO5.out (fun j hj=>heap_ot (fun e=>by have:=(HO5.lt j hj).1;omega) _)
    ·exact HX5.set 1 _
    ·exact HB5.setCell (p:=⟨g,1,none⟩) lrf _
   case measure=>exact meas_next HLT.out HSL.len
  ·obtain rfl:k=x.args.length:=by omega
   have HBR:=hid hbr;have HGR:=hid hga;have HGX:=hid hgx
   clear hlt hbr hga hgx
   have HTL:=hid (show T.length<=100000 from by rw [<- HTD.out,List.length_map,List.length_range];exact HKD.2.2)
   have HXr:=hid (HX3.keep (HBR.block w.heap.size (by have:=HBF.out;have:=HG.out;omega)))
   have HIr:=hid (HI3.keep (HBR.block bi (by have:=HBF.out;have:=HG.out;omega)))
   have HFr:=hid (HF3.keep (HBR.block bf (by have:=HBF.out;have:=HG.out;omega)))
   have HPr:=hid (HP3.keep (HBR.block b4 (by have:=HBF.out;have:=HG.out;omega)))
   have HBr:=hid (HB3.trans (HBR.mono (by have:=HBF.out;have:=HG.out;omega)))
   have r3:wr.cell? ⟨w.heap.size,3,none⟩=some (.string ⟨x.nm.toArray⟩):=HXr.at 3 rfl
   have q0:(x.nm == [102])=false:=by simpa using HKD.2.1
   go_upto_region 18 with fail
   clear q0 r3
   have HX6:=HXr;have HI6:=HIr;have HP6:=HPr;have HG6:=HGX;have HB6:=HBr
   have HF6:=hid (show BxL 74 bf [.string ⟨(aloneF x).nm.toArray⟩,.slice none 0 0,.slice (some ⟨bi,0,none⟩) 1 1,.int .i64 0,.int .i64 0] wr from by
    have e:(aloneF x).nm=[102]:=by unfold aloneF;simp only;rw [if_neg (fun h=>HKD.2.1 h.2)]
    rw [e];exact HFr.out)
   have HO6:=hid HGR.strs
   have HOB:=hid (fun o=>own_box (B:=w.heap.size) (n:=5) (HF6.al o) HBO.out rfl)
   have s0:wr.cell? ⟨b4,3,none⟩=some (.slice (some ⟨bf,0,none⟩) 1 1):=HP6.at 3 rfl
   obtain ⟨s1,s2,s3,s4,s5⟩:=HG6.p5
   go_upto_region 19 with (at_builtin;refine wpList_appG (R:=fun _=>True) _ rfl _ _ 24 rfl w.heap.size 74 _ 5 80 Tryz.underlying24 info_fuG rfl (by decide) (.slice (some ⟨bf,0,none⟩) 1 1) 1 [.string ⟨(aloneF x).nm.toArray⟩,.slice none 0 0,.slice (some ⟨bi,0,none⟩) 1 1,.int .i64 0,.int .i64 0] rfl (HOB.out _) ⟨wr.heap.size,0,none⟩ 1 1 [.string ⟨x.nm.toArray⟩,.slice po T.length co,.slice none 0 0,.int .i64 0,.int .i64 0] rfl rfl (RowR.lit (R:=fun _=>True) wr [.string ⟨x.nm.toArray⟩,.slice po T.length co,.slice none 0 0,.int .i64 0,.int .i64 0] 74 trivial) (by simp [Value.oneCell']) (by omega) (by unfold maxLen;omega) (by rw [sA];have:=HX6.out.lt;omega) ?_;intro v8 w8 ho8 hg8 hv8;obtain ⟨p8,c8,rfl⟩:=own_sliceG ho8;have HO8:=hid ho8;have HV8:=hid hv8;have hga8:=(World.grownBy_alloc wr (.cells #[.string ⟨x.nm.toArray⟩,.slice po T.length co,.slice none 0 0,.int .i64 0,.int .i64 0] 74) (Value.slice (some ⟨bf,0,none⟩) 1 1).ownBlock).trans hg8;have HK8:=hid (show ∀ j,j<wr.heap.size->j ≠ bf->w8.heap[j]?=wr.heap[j]? from fun j h1 h2=>hga8.block j h1 (fun e=>h2 (by cases e;rfl)));have HS8:=hid hga8.size;have HB8:=hid (HB6.out.grown hga8 HB6.out.size (fun i hi=>by cases hi;exact HBO.out));have HP8:=hid (HP6.out.keep (HK8.out b4 HP6.out.lt (by have:=HBF.out;omega)));have u1:w8.cell? ⟨b4,3,none⟩=some (.slice (some ⟨bf,0,none⟩) 1 1):=HP8.out.at 3 rfl;have u2:w8.frozen? ⟨b4,3,none⟩=false:=HP8.out.fr 3;clear ho8 hg8 hv8 hga8 s0 s1 s2 s3 s4 s5)
   clear u1 u2
   have HN8:=hid (show ∀ j,(Value.slice p8 (1+1) c8).ownBlock=some j->j=bf\/wr.heap.size<j from fun j hj=>by
    rcases HV8.out with e | e
    ·rw [e] at hj;cases hj;exact .inl rfl
    ·rw [e] at hj;cases hj;right;rw [sA];omega)
   obtain ⟨w9,hw9⟩:∃ W,w8.setCell ⟨b4,3,none⟩ (.slice p8 2 c8)=W:=⟨_,rfl⟩
   have hk9:∀ j,j<wr.heap.size->j ≠ bf->j ≠ b4->w9.heap[j]?=wr.heap[j]?:=fun j h1 h2 h3=>by rw [<- hw9,heap_ot h3];exact HK8.out j h1 h2
   have hz9:w9.heap.size=w8.heap.size:=by rw [<- hw9,World.size_setCell]
   have hlt9:wr.heap.size<=w9.heap.size:=by rw [hz9];exact HS8.out
   have HBW:=hid (show Below w.heap.size w w9 from by rw [<- hw9];exact HB8.setCell (p:=⟨b4,3,none⟩) (by have:=HBF.out;show w.heap.size<=b4;omega) _)
   have HXW:=hid (show BxL 41 w.heap.size (inL x (.slice pa x.args.length ca)) w9 from HX6.keep (hk9 _ HX6.lt (fun e=>by have:=HBN.out;omega) (by have:=HBF.out;omega)))
   have HI9:=hid (show BxL 41 bi (inL { x with pos:=(1,1) } (.slice pa x.args.length ca)) w9 from HI6.keep (hk9 _ HI6.lt HGE.2.2 (by have:=HBF.out;omega)))
   have HPB:=hid (show BxL 27 b4 [.int .i64 1,.slice none 0 0,.slice none 0 0,.slice p8 2 c8,.slice none 0 0] w9 from by rw [<- hw9];exact HP8.set 3 _)
   have HEW:=hid (HE.below HBW.out)
   have HF9:=hid (show SlG kFu (·<w9.heap.size) w9 (.slice p8 2 c8) [aloneF x,aloneG x] from by
    have ho9:w9.ownsRow w.heap.size 74 5 (.slice p8 2 c8) 2 ([.string ⟨(aloneF x).nm.toArray⟩,.slice none 0 0,.slice (some ⟨bi,0,none⟩) 1 1,.int .i64 0,.int .i64 0]++[.string ⟨x.nm.toArray⟩,.slice po T.length co,.slice none 0 0,.int .i64 0,.int .i64 0]):=by
     rw [<- hw9]
     exact owns_keepG HO8.out fun j hj=>heap_ot (by have:=HP6.lt;have:=HBF.out;rcases HN8.out j hj with e | e <;> omega) _
    have hp9:SlG kStr (·<w9.heap.size) w9 (.slice po T.length co) T:=by
     refine (GA.ofStrs (owns_keepG HO6.out fun j hj=>hk9 j (HO6.lt j hj).2 (by have:=(HO6.lt j hj).1;have:=HBF.out;have:=HG.out;omega) (by have:=(HO6.lt j hj).1;have:=HG.out;omega))).sl (by have:=HTL.out;omega)
    refine SlG.ofOwn (K:=kFu) (css:=[[.string ⟨(aloneF x).nm.toArray⟩,.slice none 0 0,.slice (some ⟨bi,0,none⟩) 1 1,.int .i64 0,.int .i64 0],[.string ⟨x.nm.toArray⟩,.slice po T.length co,.slice none 0 0,.int .i64 0,.int .i64 0]]) ⟨rfl,fun i hi hi'=>?_⟩ ho9 (by simp) (fun k hk=>by
     have:=ho9.lt k hk;exact this.2)
    rcases i with _ | _ | i
    ·exact ⟨_,_,rfl,SlG.nil,SlG.box HI9.out ⟨(.slice pa x.args.length ca),rfl,HSL.below HBW.out⟩ HI9.lt⟩
    ·exact ⟨_,_,rfl,by show SlG kStr (·<w9.heap.size) w9 (.slice po T.length co) (aloneG x).params;rw [show (aloneG x).params=T from HTD.out];exact hp9,SlG.nil⟩
    ·simp at hi;omega)
   rw [hw9]
   clear hw9 hk9 hz9 hlt9
   have HPG:=hid (show PgV (·<w9.heap.size) w9 (.slice none 0 0) (.slice none 0 0) (.slice p8 2 c8) (.slice none 0 0) (aloneP x) from by
    have hk:=HKD.1
    unfold aloneP
    rw [if_neg (by omega),if_neg (by omega),if_pos hk]
    exact ⟨SlG.nil,SlG.nil,HF9.out,SlG.nil⟩)
   have HOK:=hid (alone_ok x H8.out)
   obtain ⟨y0,y1,y2,y3,y4⟩:=HPB.p5
   cases hfb:formB x with
   | true =>
    have HFB:=hid hfb
    have hg:=alone_good x hfb
    have g4:((checkM (aloneP x)).2 == 4)=false:=by rw [beq_eq_false_iff_ne];exact hg.1
    have g5:((checkM (aloneP x)).2 == 5)=false:=by rw [beq_eq_false_iff_ne];exact hg.2
    have HM:=hid (show instrM x=(lineM x,0) from by unfold instrM;rw [if_pos hfb])
    clear hg hfb
    go_wp2_with (first
     | (go_at_call 34;(refine (check_any (aloneP x) _ _ _ _ _ HEW.out HPG.out HOK.out).mono ?_);rintro e w3 ⟨rfl,hb3⟩;have HB3:=hid (HBW.out.trans (hb3.mono HBW.out.size));have z0:∀ o,(w3.alloc o).cell? ⟨w.heap.size,0,none⟩=some (.int .u8 (x.kind:Int)):=fun o=>((HXW.out.bel hb3).al o).at 0 rfl;have z1:∀ o,(w3.alloc o).cell? ⟨w.heap.size,1,none⟩=some (.int .u8 (x.op:Int)):=fun o=>((HXW.out.bel hb3).al o).at 1 rfl;have z2:∀ o,(w3.alloc o).cell? ⟨w.heap.size,2,none⟩=some (.string ⟨x.dst.toArray⟩):=fun o=>((HXW.out.bel hb3).al o).at 2 rfl;have z3:∀ o,(w3.alloc o).cell? ⟨w.heap.size,3,none⟩=some (.string ⟨x.nm.toArray⟩):=fun o=>((HXW.out.bel hb3).al o).at 3 rfl;have z4:∀ o,(w3.alloc o).cell? ⟨w.heap.size,4,none⟩=some (.slice pa x.args.length ca):=fun o=>((HXW.out.bel hb3).al o).at 4 rfl;have z5:∀ o,(w3.alloc o).cell? ⟨w.heap.size,5,none⟩=some (.int .i64 x.pos.1):=fun o=>((HXW.out.bel hb3).al o).at 5 rfl;have z6:∀ o,(w3.alloc o).cell? ⟨w.heap.size,6,none⟩=some (.int .i64 x.pos.2):=fun o=>((HXW.out.bel hb3).al o).at 6 rfl;clear hb3)
     | (go_at_call 48;(refine (line_any x _ _ HFB.out HNU.out (HSL.out.below (HB3.out.alloc HB3.out.size _)) (HE.out.below (HB3.out.alloc HB3.out.size _))).mono ?_);rintro e w4 ⟨rfl,hb4⟩;have HB4:=hid ((HB3.out.alloc HB3.out.size _).trans (hb4.mono (HB3.out.alloc HB3.out.size _).size));clear hb4))
    go_ret2
    exact ⟨by rw [HM.out];rfl,HB4.out⟩
   | false =>
    have g4:((checkM (aloneP x)).2 == 4)=true:=by rw [alone_bad x hfb];rfl
    have HM:=hid (show instrM x=([],4) from by unfold instrM;rw [if_neg (by rw [hfb];decide)])
    clear hfb
    go_wp2_with (go_at_call 34;(refine (check_any (aloneP x) _ _ _ _ _ HEW.out HPG.out HOK.out).mono ?_);rintro e w3 ⟨rfl,hb3⟩;have HB3:=hid (HBW.out.trans (hb3.mono HBW.out.size));have z0:∀ o,(w3.alloc o).cell? ⟨w.heap.size,0,none⟩=some (.int .u8 (x.kind:Int)):=fun o=>((HXW.out.bel hb3).al o).at 0 rfl;have z1:∀ o,(w3.alloc o).cell? ⟨w.heap.size,1,none⟩=some (.int .u8 (x.op:Int)):=fun o=>((HXW.out.bel hb3).al o).at 1 rfl;have z2:∀ o,(w3.alloc o).cell? ⟨w.heap.size,2,none⟩=some (.string ⟨x.dst.toArray⟩):=fun o=>((HXW.out.bel hb3).al o).at 2 rfl;have z3:∀ o,(w3.alloc o).cell? ⟨w.heap.size,3,none⟩=some (.string ⟨x.nm.toArray⟩):=fun o=>((HXW.out.bel hb3).al o).at 3 rfl;have z4:∀ o,(w3.alloc o).cell? ⟨w.heap.size,4,none⟩=some (.slice pa x.args.length ca):=fun o=>((HXW.out.bel hb3).al o).at 4 rfl;have z5:∀ o,(w3.alloc o).cell? ⟨w.heap.size,5,none⟩=some (.int .i64 x.pos.1):=fun o=>((HXW.out.bel hb3).al o).at 5 rfl;have z6:∀ o,(w3.alloc o).cell? ⟨w.heap.size,6,none⟩=some (.int .i64 x.pos.2):=fun o=>((HXW.out.bel hb3).al o).at 6 rfl;clear hb3)
    go_ret2
    exact ⟨by rw [HM.out];rfl,HB3.alloc HB3.size _⟩
theorem instr_any (x:In) (v:Value) (w:World) (h8:x.kind<=255/\x.op<=255) (hl:x.args.length<=100000) (hn:∀ a ∈ x.args,a.num<18446744073709551616) (h:SlG kAg (·<w.heap.size) w v x.args) (hE:PrE w) :
  Calls Tryz.prog 61 #[.agg #[.int .u8 (x.kind:Int),.int .u8 (x.op:Int),.string ⟨x.dst.toArray⟩,.string ⟨x.nm.toArray⟩,v,.int .i64 x.pos.1,.int .i64 x.pos.2]] w fun e w'=>e=.returned (.tuple #[.string ⟨(instrM x).1.toArray⟩,.int .i64 (instrM x).2])/\Below w.heap.size w w':=by
 by_cases h4:x.kind=4
 ·by_cases hf:x.nm=[102]
  ·exact instr_4f x v w ⟨h4,hf,hl⟩ h8 hn h hE
  ·exact instr_4n x v w ⟨h4,hf,hl⟩ h8 hn h hE
 ·by_cases h5:x.kind=5
  ·exact instr_B5 x v w h5 h8 hn h hE
  ·by_cases h6:x.kind=6
   ·exact instr_B6 x v w h6 h8 hn h hE
   ·by_cases h2:x.kind=2
    ·exact instr_C2 x v w h2 h8 hn h hE
    ·by_cases h3:x.kind=3
     ·exact instr_C3 x v w h3 h8 hn h hE
     ·exact instr_A x v w ⟨h2,h3,h4,h5,h6⟩ h8 hn h hE
end Go.Proofs.YtoofbgoeipijcaaGreatDoor
