/-
 A part.
-/
import Derived.Test.YtoofbgoeipijcaaGreatDoorVB47
import Derived.JoinedOf
import Derived.KernelRfl
import Derived.HandedShaped
import Derived.LaidMore
import Derived.Stop.Joined
import Derived.Stop.LaidErr
import Derived.Deep.Slices
import Derived.Deep.Strs
import Derived.MakeChecks
namespace Go.Proofs.YtoofbgoeipijcaaGreatDoor
set_option linter.all false
open Go.RowKit Go.Shelf
attribute [local go_sem] Oper.semAt_some
theorem cat2P (t s:Bs):(⟨t.toArray⟩:ByteArray)++⟨s.toArray⟩=⟨(t++s).toArray⟩:=by rw [ByteArray.mk_append_mk]
def numSrc (dW dS dA dN:Bs):Bs:=([119,105,100,116,104,32]:Bs)++dW++[124,97,114,114,97,121,32,97,32]++dS++[124,109,97,105,110,124,120,32,61,32,97,100,100,32,48]++dA++[32,121,124,115,116,111,114,101,32,97,32]++dN++[32,120,124,101,110,100]
theorem src_cat (dW dS dA dN:Bs):(⟨#[119,105,100,116,104,32]⟩:ByteArray)++⟨dW.toArray⟩++⟨#[124,97,114,114,97,121,32,97,32]⟩++⟨dS.toArray⟩++⟨#[124,109,97,105,110,124,120,32,61,32,97,100,100,32,48]⟩++⟨dA.toArray⟩++⟨#[32,121,124,115,116,111,114,101,32,97,32]⟩++⟨dN.toArray⟩++⟨#[32,120,124,101,110,100]⟩=⟨(numSrc dW dS dA dN).toArray⟩:=by
 unfold numSrc
 simp only [cat2P]
theorem dec_no124 (n:Nat):(124:UInt8) ∉ Lib.decDigits n:=fun h=>by
 have h1:=decDigits_all n
 rw [List.all_eq_true] at h1
 have:=h1 124 h
 revert this;decide
theorem src_rep (W S A N:Nat):Lib.replaceAll (numSrc (Lib.decDigits W) (Lib.decDigits S) (Lib.decDigits A) (Lib.decDigits N)) [124] [10]=numText W S A N:=by
 rw [rep_one 124 10 (by decide)]
 unfold numSrc
 simp only [List.map_append]
 rw [map_no _ (dec_no124 W),map_no _ (dec_no124 S),map_no _ (dec_no124 A),map_no _ (dec_no124 N)]
 simp [numText,numT,textT,jn_cons2,jn_one,kWidth,kArray,kMain,kStore,kEnd]
theorem src_len (dW dS dA dN:Bs) (h:dW.length<=20/\dS.length<=20/\dA.length<=20/\dN.length<=20):(numSrc dW dS dA dN).length<=1000:=by
 unfold numSrc
 simp only [List.length_append,List.length_cons,List.length_nil]
 omega
theorem rep_len (s:Bs) (c d:UInt8) (hcd:c ≠ d):(Lib.replaceAll s [c] [d]).length=s.length:=by rw [rep_one c d hcd,List.length_map]
structure NumC (w:World) (A N b off b1 o1 k1 b2 o2 k2:Nat):Prop where
 i1:w.cell? ⟨b,off+4,none⟩=some (.slice (some ⟨b1,o1,none⟩) 2 k1)
 i2:w.cell? ⟨b,off+7+4,none⟩=some (.slice (some ⟨b2,o2,none⟩) 2 k2)
 n1:w.cell? ⟨b1,o1,none⟩=some (.string ⟨#[]⟩)
 v1:w.cell? ⟨b1,o1+1,none⟩=some (.int .u64 (A:Int))
 n2:w.cell? ⟨b2,o2,none⟩=some (.string ⟨#[]⟩)
 v2:w.cell? ⟨b2,o2+1,none⟩=some (.int .u64 (N:Int))
theorem NumC.keep {w w':World} {A N b off b1 o1 k1 b2 o2 k2:Nat} (h:NumC w A N b off b1 o1 k1 b2 o2 k2) (hb:Below w.heap.size w w'):NumC w' A N b off b1 o1 k1 b2 o2 k2 :=
 ⟨cB hb h.i1,cB hb h.i2,cB hb h.n1,cB hb h.v1,cB hb h.n2,cB hb h.v2⟩
theorem num_cells {R:Nat->Prop} {w:World} {v:Value} {W S A N:Nat} (h:SlG kIn R w v (numP W S A N).main):∃ b off c b1 o1 k1 b2 o2 k2,v=.slice (some ⟨b,off,none⟩) 2 c/\NumC w A N b off b1 o1 k1 b2 o2 k2:=by
 obtain ⟨p,c,rfl⟩:=h.slc
 obtain ⟨b,off,rfl,_,hc⟩:=in_at h (by show 0<2;decide)
 obtain ⟨pa,ka,hsa,_,_,_,_,e1,_⟩:=hc 0 (by show 0<2;decide)
 obtain ⟨pb,kb,hsb,_,_,_,_,e2,_⟩:=hc 1 (by show 1<2;decide)
 obtain ⟨b1,o1,rfl,_,ha⟩:=ag_at hsa (by show 0<2;decide)
 obtain ⟨b2,o2,rfl,_,hb⟩:=ag_at hsb (by show 0<2;decide)
 obtain ⟨x1,x2⟩:=ha 0 (by show 0<2;decide)
 obtain ⟨y1,y2⟩:=hb 0 (by show 0<2;decide)
 exact ⟨b,off,c,b1,o1,ka,b2,o2,kb,rfl,e1,e2,x1,x2,y1,y2⟩
set_option maxRecDepth 100000 in
set_option maxHeartbeats 4000000 in
theorem numbers_any (N:Nat) (W0 S0:Int) (m:Int) (w:World) (hn:N<=18446744073709551615) (hw0 : -9223372036854775808<=W0/\W0<=9223372036854775807) (hs0 : -9223372036854775808<=S0/\S0<=9223372036854775807) (hE:PrE0 w) (hm:w.cell? ⟨0,0,none⟩=some (.int .i64 m)) :
  Calls Tryz.prog 6 #[.int .u64 (N:Int),.int .i64 W0,.int .i64 S0] w fun e w'=>e=.returned (.bool true)/\Below w.heap.size w w':=by
 have HE:=hid hE;have HM:=hid hm
 have HMB:=hid (show ∀ W,Below w.heap.size w W->W.cell? ⟨0,0,none⟩=some (.int .i64 m) from fun W hb=>cB hb HM.out)
 obtain ⟨W,hW,hWb⟩:∃ W:Nat,W0 % 80=(W:Int)/\W<80:=⟨(W0 % 80).toNat,by have:=Int.emod_nonneg W0 (by decide:(80:Int) ≠ 0);omega,by have:=Int.emod_lt_of_pos W0 (by decide:(0:Int)<80);omega⟩
 obtain ⟨S,hS,hSb⟩:∃ S:Nat,S0 % 80=(S:Int)/\S<80:=⟨(S0 % 80).toNat,by have:=Int.emod_nonneg S0 (by decide:(80:Int) ≠ 0);omega,by have:=Int.emod_lt_of_pos S0 (by decide:(0:Int)<80);omega⟩
 obtain ⟨A,hA⟩:∃ A:Nat,N / 16=A:=⟨_,rfl⟩
 have hAb:A<10000000000000000000:=by omega
 have HK1:=hid (show ∀ X,Calls Tryz.prog 26 #[.int .i64 W0,.int .i64 80] X (fun e w'=>e=.returned (.int .i64 (W:Int))/\X=w') from fun X=>by have h:=kmod_any W0 80 X hw0 (by decide);rw [hW] at h;exact h)
 have HK2:=hid (show ∀ X,Calls Tryz.prog 26 #[.int .i64 S0,.int .i64 80] X (fun e w'=>e=.returned (.int .i64 (S:Int))/\X=w') from fun X=>by have h:=kmod_any S0 80 X hs0 (by decide);rw [hS] at h;exact h)
 obtain ⟨dW,hdW⟩:∃ d,Lib.decDigits W=d:=⟨_,rfl⟩
 obtain ⟨dS,hdS⟩:∃ d,Lib.decDigits S=d:=⟨_,rfl⟩
 obtain ⟨dA,hdA⟩:∃ d,Lib.decDigits A=d:=⟨_,rfl⟩
 obtain ⟨dN,hdN⟩:∃ d,Lib.decDigits N=d:=⟨_,rfl⟩
 have HD1:=hid (show ∀ X,Calls Tryz.prog 27 #[.int .u64 (W:Int)] X (fun e w'=>e=.returned (.string ⟨dW.toArray⟩)/\Below X.heap.size X w') from fun X=>by rw [<- hdW];exact digits_any W (by omega) X)
 have HD2:=hid (show ∀ X,Calls Tryz.prog 27 #[.int .u64 (S:Int)] X (fun e w'=>e=.returned (.string ⟨dS.toArray⟩)/\Below X.heap.size X w') from fun X=>by rw [<- hdS];exact digits_any S (by omega) X)
 have HD3:=hid (show ∀ X,Calls Tryz.prog 27 #[.int .u64 (A:Int)] X (fun e w'=>e=.returned (.string ⟨dA.toArray⟩)/\Below X.heap.size X w') from fun X=>by rw [<- hdA];exact digits_any A (by omega) X)
 have HD4:=hid (show ∀ X,Calls Tryz.prog 27 #[.int .u64 (N:Int)] X (fun e w'=>e=.returned (.string ⟨dN.toArray⟩)/\Below X.heap.size X w') from fun X=>by rw [<- hdN];exact digits_any N hn X)
 have l1:dW.length<=20:=by rw [<- hdW,Lib.decDigits_length];exact Lib.nDigits_le20 W (by omega)
 have l2:dS.length<=20:=by rw [<- hdS,Lib.decDigits_length];exact Lib.nDigits_le20 S (by omega)
 have l3:dA.length<=20:=by rw [<- hdA,Lib.decDigits_length];exact Lib.nDigits_le20 A (by omega)
 have l4:dN.length<=20:=by rw [<- hdN,Lib.decDigits_length];exact Lib.nDigits_le20 N (by omega)
 obtain ⟨NI,hNI⟩:∃ z:Int,(N:Int)=z:=⟨_,rfl⟩
 have e1:IntKind.u64.wrap (W:Int)=(W:Int):=IntWalk.u64_in _ (by omega)
 have e2:IntKind.u64.wrap (S:Int)=(S:Int):=IntWalk.u64_in _ (by omega)
 have e3:NI / 16=(A:Int):=by omega
 rw [hNI]
 have HN:=hid hn;have HNI:=hid hNI;have HA:=hid hA;have HAB:=hid hAb;have HWB:=hid hWb;have HSB:=hid hSb;have HDW:=hid hdW;have HDS:=hid hdS;have HDA:=hid hdA;have HDN:=hid hdN
 rw [hNI] at HD4
 have HL:=hid (And.intro l1 (And.intro l2 (And.intro l3 l4)))
 clear hE hm hw0 hs0 hW hS hn hNI hA hAb hWb hSb hdW hdS hdA hdN
 go_enter Tryz.func6,Tryz.ntmps6
 go_upto_region 3 with (first
  | (go_at_call 26;(first | with_reducible refine (HK1.out _).mono ?_ | with_reducible refine (HK2.out _).mono ?_);rintro e wk ⟨rfl,rfl⟩)
  | (go_at_call 27;(first | with_reducible refine (HD1.out _).mono ?_ | with_reducible refine (HD2.out _).mono ?_ | with_reducible refine (HD3.out _).mono ?_ | with_reducible refine (HD4.out _).mono ?_);rintro e wn ⟨rfl,hb⟩;first | (have HB:=hid (HB.out.trans (hb.mono HB.out.size));clear hb) | (have HB:=hid hb;clear hb)))
 have HSL:=hid (src_len dW dS dA dN HL.out)
 have HREP:=hid (show Lib.replaceAll (numSrc dW dS dA dN) [124] [10]=numText W S A N from by rw [<- HDW.out,<- HDS.out,<- HDA.out,<- HDN.out];exact src_rep W S A N)
 have HTL:=hid (show (numText W S A N).length<=65536 from by rw [<- HREP.out,rep_len _ _ _ (by decide)];have:=HSL.out;omega)
 have HPE:=hid (num_parse (W:=W) (S:=S) (A:=A) (B:=N) (by have:=HWB.out;omega) (by have:=HSB.out;omega) HAB.out HN.out HTL.out)
 rw [src_cat dW dS dA dN]
 obtain ⟨TT,hTT⟩:∃ T,numSrc dW dS dA dN=T:=⟨_,rfl⟩
 rw [hTT] at HSL HREP
 rw [hTT]
 clear hTT
 obtain ⟨tt,htt⟩:∃ T,numText W S A N=T:=⟨_,rfl⟩
 rw [htt] at HREP HPE HTL
 clear htt
 have HRA:=hid (show Calls Tryz.prog 29 #[.string ⟨TT.toArray⟩,.string ⟨#[124]⟩,.string ⟨#[10]⟩] wn (fun e w'=>e=.returned (.string ⟨tt.toArray⟩)/\Below wn.heap.size wn w') from by
  have hc:=Lib.countB_le ⟨#[124]⟩ (by decide) TT.length ⟨TT.toArray⟩ lrf
  have h:=Tryz.strings_ReplaceAll ⟨TT.toArray⟩ ⟨#[124]⟩ ⟨#[10]⟩ m wn (by show TT.length<_;have:=HSL.out;omega) (HMB.out _ HB.out) (by decide) (by show TT.length+_*1<=_;have:(ByteArray.mk TT.toArray).size=TT.length:=rfl;have:=HSL.out;omega)
  rw [show Lib.replaceAll (ByteArray.mk TT.toArray).data.toList (ByteArray.mk #[124]).data.toList (ByteArray.mk #[10]).data.toList=tt from HREP.out] at h
  exact h)
 by_cases hok:1<=W/\W<=64/\1<=S/\S<=64
 ·have hpe:parseE tt=.ok (numP W S A N):=by rw [HPE.out,if_pos ⟨hok.1,hok.2.1⟩,if_pos hok.2.2]
  have g1:decide ((W:Int)<1)=false:=decide_eq_false (by omega)
  have g2:decide (64<(W:Int))=false:=decide_eq_false (by omega)
  have g3:decide ((S:Int)<1)=false:=decide_eq_false (by omega)
  have g4:decide (64<(S:Int))=false:=decide_eq_false (by omega)
  have HPA:=hid (show ∀ X,Below w.heap.size w X->Calls Tryz.prog 28 #[.string ⟨tt.toArray⟩] X (fun e w'=>(∃ p1 c1 p2 c2 p3 c3 b off c b1 o1 k1 b2 o2 k2,e=.returned (.tuple #[.agg #[.int .i64 (W:Int),.slice p1 0 c1,.slice p2 1 c2,.slice p3 0 c3,.slice (some ⟨b,off,none⟩) 2 c],.agg #[.int .i64 0,.int .i64 0],.int .i64 0])/\NumC w' A N b off b1 o1 k1 b2 o2 k2)/\Below X.heap.size X w') from fun X hX=>by
   refine (parse_any tt m X (HE.below hX) (HMB.out _ hX)).mono ?_
   rintro e w' ⟨hb,a,b,c,d,he,hq⟩
   rw [parse_read hpe] at he hq
   obtain ⟨p1,c1,h1⟩:=hq.1.slc
   obtain ⟨p2,c2,h2⟩:=hq.2.1.slc
   obtain ⟨p3,c3,h3⟩:=hq.2.2.1.slc
   subst h1 h2 h3
   obtain ⟨b,off,c,b1,o1,k1,b2,o2,k2,rfl,hc⟩:=num_cells hq.2.2.2
   exact ⟨⟨p1,c1,p2,c2,p3,c3,b,off,c,b1,o1,k1,b2,o2,k2,he,hc⟩,hb⟩)
  clear hok hpe
  go_upto_region 8 with (first
   | (go_at_call 29;(with_reducible refine HRA.out.mono ?_);rintro e wr ⟨rfl,hb⟩;have HB:=hid (HB.out.trans (hb.mono HB.out.size));clear hb)
   | (go_at_call 28;(with_reducible refine (HPA.out _ HB.out).mono ?_);rintro e wp ⟨⟨p1,c1,p2,c2,p3,c3,b,off,c,b1,o1,k1,b2,o2,k2,rfl,hc⟩,hb⟩;have HC:=hid hc;have HB:=hid (HB.out.trans (hb.mono HB.out.size));clear hb hc))
  obtain ⟨wq,hwq⟩:∃ Y:World,(wp.alloc (.cells #[.int .i64 (W:Int),.slice p1 0 c1,.slice p2 1 c2,.slice p3 0 c3,.slice (some ⟨b,off,none⟩) 2 c] 27)).alloc (.cells #[.int .i64 0,.int .i64 0] 39)=Y:=⟨_,rfl⟩
  have hbq:Below wp.heap.size wp wq:=by rw [<- hwq];exact (bA).alloc (by rw [sA];omega) _
  have hbx:BxL 27 wp.heap.size [.int .i64 (W:Int),.slice p1 0 c1,.slice p2 1 c2,.slice p3 0 c3,.slice (some ⟨b,off,none⟩) 2 c] wq:=by rw [<- hwq];exact BxL.bel (BxL.new 27 wp [.int .i64 (W:Int),.slice p1 0 c1,.slice p2 1 c2,.slice p3 0 c3,.slice (some ⟨b,off,none⟩) 2 c]) (bA)
  have m0:=hbx.at 0 rfl
  have m4:=hbx.at 4 rfl
  obtain ⟨n0,n1,n2,n3,n4,n5⟩:=HC.keep hbq
  have HB:=hid (HB.trans (hbq.mono HB.size))
  rw [hwq]
  clear hwq hbq hbx
  go_wp2_with (go_at_call 25;(with_reducible refine (awake23_any m _ (HE.out.below HB.out) (HMB.out _ HB.out)).mono ?_);rintro e wa ⟨rfl,hb⟩;have HB:=hid (HB.out.trans (hb.mono HB.out.size));clear hb)
  go_ret
  exact ⟨rfl,HB.out⟩
 ·obtain ⟨L,C,hpe,hcase⟩:∃ L C:Int,parseE tt=.error ((L,C),3)/\((L=1/\C=7/\(decide ((W:Int)<1) || decide (64<(W:Int)))=true)\/(L=2/\C=9/\decide ((W:Int)<1)=false/\decide (64<(W:Int))=false/\(decide ((S:Int)<1) || decide (64<(S:Int)))=true)):=by
   by_cases h1:1<=W/\W<=64
   ·have h2:¬ (1<=S/\S<=64):=fun h=>hok ⟨h1.1,h1.2,h⟩
    exact ⟨2,9,by rw [HPE.out,if_pos h1,if_neg h2],.inr ⟨rfl,rfl,decide_eq_false (by omega),decide_eq_false (by omega),by simp;omega⟩⟩
   ·exact ⟨1,7,by rw [HPE.out,if_neg h1],.inl ⟨rfl,rfl,by simp;omega⟩⟩
  have HPA:=hid (show ∀ X,Below w.heap.size w X->Calls Tryz.prog 28 #[.string ⟨tt.toArray⟩] X (fun e w'=>(∃ p1 c1 p2 c2 p3 c3 p4 c4,e=.returned (.tuple #[.agg #[.int .i64 0,.slice p1 0 c1,.slice p2 0 c2,.slice p3 0 c3,.slice p4 0 c4],.agg #[.int .i64 L,.int .i64 C],.int .i64 3]))/\Below X.heap.size X w') from fun X hX=>by
   refine (parse_any tt m X (HE.below hX) (HMB.out _ hX)).mono ?_
   rintro e w' ⟨hb,a,b,c,d,he,hq⟩
   rw [parse_refused hpe] at he hq
   obtain ⟨p1,c1,h1⟩:=hq.1.slc
   obtain ⟨p2,c2,h2⟩:=hq.2.1.slc
   obtain ⟨p3,c3,h3⟩:=hq.2.2.1.slc
   obtain ⟨p4,c4,h4⟩:=hq.2.2.2.slc
   subst h1 h2 h3 h4
   exact ⟨⟨p1,c1,p2,c2,p3,c3,p4,c4,he⟩,hb⟩)
  have HFA:=hid (show ∀ X,Below w.heap.size w X->Calls Tryz.prog 30 #[.string ⟨TT.toArray⟩,.int .i64 L,.int .i64 C,.int .i64 3] X (fun e w'=>e=.returned (.bool true)/\Below X.heap.size X w') from fun X hX=>fails_any TT tt L C 3 m X (HE.below hX) (HMB.out _ hX) (by have:=HSL.out;omega) HREP.out (by rw [parse_refused hpe]))
  clear hok hpe
  have arms:True:=trivial
  rcases hcase with ⟨rfl,rfl,g1⟩ | ⟨rfl,rfl,g1,g2,g3⟩
  ·cases ga:decide ((W:Int)<1) <;> rw [ga] at g1 <;> simp only [Bool.true_or,Bool.false_or] at g1
   all_goals
    go_wp2_with (first
     | (go_at_call 29;(with_reducible refine HRA.out.mono ?_);rintro e wr ⟨rfl,hb⟩;have HB:=hid (HB.out.trans (hb.mono HB.out.size));clear hb)
     | (go_at_call 28;(with_reducible refine (HPA.out _ HB.out).mono ?_);rintro e wp ⟨⟨p1,c1,p2,c2,p3,c3,p4,c4,rfl⟩,hb⟩;have HB:=hid (((HB.out.trans (hb.mono HB.out.size)).alloc (Nat.le_trans HB.out.size hb.size) (.cells #[.int .i64 0,.slice p1 0 c1,.slice p2 0 c2,.slice p3 0 c3,.slice p4 0 c4] 27)).alloc (by rw [sA];have:=HB.out.size;have:=hb.size;omega) (.cells #[.int .i64 1,.int .i64 7] 39));clear hb)
     | (go_at_call 30;(with_reducible refine (HFA.out _ HB.out).mono ?_);rintro e wf ⟨rfl,hb⟩;have HB:=hid (HB.out.trans (hb.mono HB.out.size));clear hb)
     | (go_at_call 25;(with_reducible refine (awake23_any m _ (HE.out.below HB.out) (HMB.out _ HB.out)).mono ?_);rintro e wa ⟨rfl,hb⟩;have HB:=hid (HB.out.trans (hb.mono HB.out.size));clear hb))
    go_ret
    exact ⟨rfl,HB.out⟩
  ·cases ga:decide ((S:Int)<1) <;> rw [ga] at g3 <;> simp only [Bool.true_or,Bool.false_or] at g3
   all_goals
    go_wp2_with (first
     | (go_at_call 29;(with_reducible refine HRA.out.mono ?_);rintro e wr ⟨rfl,hb⟩;have HB:=hid (HB.out.trans (hb.mono HB.out.size));clear hb)
     | (go_at_call 28;(with_reducible refine (HPA.out _ HB.out).mono ?_);rintro e wp ⟨⟨p1,c1,p2,c2,p3,c3,p4,c4,rfl⟩,hb⟩;have HB:=hid (((HB.out.trans (hb.mono HB.out.size)).alloc (Nat.le_trans HB.out.size hb.size) (.cells #[.int .i64 0,.slice p1 0 c1,.slice p2 0 c2,.slice p3 0 c3,.slice p4 0 c4] 27)).alloc (by rw [sA];have:=HB.out.size;have:=hb.size;omega) (.cells #[.int .i64 2,.int .i64 9] 39));clear hb)
     | (go_at_call 30;(with_reducible refine (HFA.out _ HB.out).mono ?_);rintro e wf ⟨rfl,hb⟩;have HB:=hid (HB.out.trans (hb.mono HB.out.size));clear hb)
     | (go_at_call 25;(with_reducible refine (awake23_any m _ (HE.out.below HB.out) (HMB.out _ HB.out)).mono ?_);rintro e wa ⟨rfl,hb⟩;have HB:=hid (HB.out.trans (hb.mono HB.out.size));clear hb))
    go_ret
    exact ⟨rfl,HB.out⟩
theorem wf_u64 {x:Int} (h:(Lit.int .u64 x).wf=true):0<=x/\x<=18446744073709551615:=by
 have h1:IntKind.u64.min=0:=by decide
 have h2:IntKind.u64.max=18446744073709551615:=by decide
 simp [Lit.wf] at h
 omega
theorem parseNumbers_any (N W0 S0:Int) (w:World) (hn:0<=N/\N<=18446744073709551615) (hw0 : -9223372036854775808<=W0/\W0<=9223372036854775807) (hs0 : -9223372036854775808<=S0/\S0<=9223372036854775807) (hE:PrE0 w) (hm:∃ m:Int,w.cell? ⟨0,0,none⟩=some (.int .i64 m)) :
  Calls Tryz.prog 6 #[.int .u64 N,.int .i64 W0,.int .i64 S0] w fun e w'=>e=.returned (.bool true)/\Below w.heap.size w w':=by
 obtain ⟨m,hm⟩:=hm
 have h:=numbers_any N.toNat W0 S0 m w (by omega) hw0 hs0 hE hm
 rwa [Int.toNat_of_nonneg hn.1] at h
set_option maxRecDepth 100000
theorem factA:(Tryz.pinned.checked.prog.mayEnter)=true:=by kernel_rfl
set_option maxRecDepth 100000
theorem factB:((Rows.printTextsRow.lifted == Tryz.pinned.checked.prog.liftsFinal))=true:=by kernel_rfl
set_option maxRecDepth 100000
theorem factC:((Tryz.pinned.checked.prog.make == some Rows.printTextsRow.make))=true:=by kernel_rfl
set_option maxRecDepth 100000
theorem factLaid:(laidOutB Tryz.pinned.checked.prog)=true:=by kernel_rfl
theorem factMaps:(mapsRowed Tryz.pinned.checked.prog)=true:=by kernel_rfl
theorem factStops:((Tryz.pinned.checked.prog.stops == []))=true:=by kernel_rfl
theorem factKnobs:((Tryz.pinned.checked.prog.stopKnobs == []))=true:=by kernel_rfl
theorem factKeys:((Rows.printTextsRow.plainKeys == Tryz.pinned.checked.prog.plainKeys))=true:=by kernel_rfl
theorem factHeard:(Tryz.pinned.checked.prog.stopsHeard)=true:=by kernel_rfl
theorem andT {a b:Bool} (h:a=true) (k:b=true):(a && b)=true:=by rw [h,k];rfl
open Go.ChangeShapes Go.WideShapes Go.ChangeAt Go.WideMaps Go.WideElems Go.RowKit
variable {H:Type} {enc:TypeId × Value->H}
theorem handed_and_shaped {a:Assume} {C:Checked} {os:Os} {f:FuncId} {fn:Func} {s:ChangeSpec} {conds:List PathCond} {apart fresh handsOn again:Bool} {X:World->Array Value->Prop}
  (hX:∀ (w w':World) (args:Array Value),w.heap=w'.heap->X w args->X w' args)
  (own:ownKnob C.prog.godebug=none) (started:os.Started) (noInit:C.prog.inits.idxOf? f=none) (hfn:C.prog.funcs[f]?=some fn)
  (witness:∃ (w:World) (tape:Tape) (i:Input),w.os=os/\(w.forCall tape i).Shaped C.prog/\i.vars=[]/\Input.okWide C.prog (w.forCall tape i) .any w.heap.size f i /\
   ((s.pre enc C.prog fn conds apart (w.forCall tape i).memory i.args/\X (w.forCall tape i).memory i.args)/\sizedMet enc C.prog fn (OpenSpec.ofChange s) apart (w.forCall tape i).memory i.args)/\a.holds C.prog (lone (Frame.enter C.prog f i.args .normal) [] (w.forCall tape i)))
  (contract:∀ (W:World) (base:Nat) (args:Array Value) (ds gs:List (DataW H)) (before:List MemPlace),
   (∀ (j:Nat) t v,fn.params[j]?=some t->args[j]?=some v->Value.okWide C.prog W .any base t v) ->
   DataW.Whole enc C.prog fn.params.toList s.vars apart W args.toList ds gs before ->
   conds.all (PathCond.test C.prog ⟨fn.params.toList,ds,s.plain.varTypes C.prog,gs⟩)=true ->
   (DataW.weightsEach C.prog (fn.params.toList++s.plain.varTypes C.prog) (ds++gs)).all (·<=reachBytes)=true->X W args ->
   W.ShapedOpen C.prog ->
   a.holds C.prog (lone (Frame.enter C.prog f args .normal) [] W) ->
   Calls C.prog f args W fun e W'=>∃ v,e=.returned v/\s.post enc C.prog fn apart fresh handsOn again W args v W') :
  ReturnsInHanded a C os f .any (fun w args=>(s.pre enc C.prog fn conds apart w args/\X w args)/\sizedMet enc C.prog fn (OpenSpec.ofChange s) apart w args) (s.post enc C.prog fn apart fresh handsOn again):=by
 refine returnsInHanded_of_calls own started noInit witness ?_
 intro w tape i _ hsh _ hok hpre hholds
 obtain ⟨_,_,_,fn',hfn',_,_,_,_,hval⟩:=hok
 have e:fn'=fn:=Option.some.inj (hfn'.symm.trans hfn)
 subst e
 obtain ⟨⟨⟨ds,gs,before,hw,hc⟩,hx⟩,hz⟩:=hpre
 have hw':=DataW.Whole.of_heap (w':=w.forCall tape i) (by rfl) hw
 refine (contract (w.forCall tape i) w.heap.size i.args ds gs before hval hw' hc (hz.weights hw) (hX _ _ _ (by rfl) hx) hsh hholds).mono fun e W' ⟨v,he,hp⟩=>?_
 subst he
 exact ChangeSpec.post_blind hp
open Go.ChangeShapes Go.WideShapes Go.ChangeAt Go.WideMaps Go.WideElems Go.RowKit
def strsD (zs:List Bs):DataW Unit := .slice (zs.map fun z => .lit (.string z)) []
def formsD (fs:List (Bool × Bool × Int)):DataW Unit := .agg (fs.map fun f => .agg [.lit (.bool f.1),.lit (.bool f.2.1),.lit (.int .i64 f.2.2)])
theorem kw_of {W:World} {rest:List (String × DataW Unit)} (h:laidMet Tryz.prog (("weephole/prog.keywords",strsD kwL) :: rest) W) :
  ∃ b off c,W.cell? ⟨3,0,none⟩=some (.slice (some ⟨b,off,none⟩) 16 c)/\∀ j,j<16->W.cell? ⟨b,off+j,none⟩=some (.string ⟨(kwL.getD j []).toArray⟩):=by
 obtain ⟨ps,⟨g',t',cs,fuel,p,q,hg',ht',hvar,hd,_,_⟩,_⟩:=h
 have hg:Tryz.prog.globalNamed "weephole/prog.keywords"=some 3:=by kernel_rfl
 have hty:(Tryz.prog.globals[3]?).map (·.type)=some 22:=by kernel_rfl
 obtain rfl:=Option.some.inj (hg.symm.trans hg')
 obtain rfl:=Option.some.inj (hty.symm.trans ht')
 rcases Deep.open_slice1 Tryz.underlying22 (by kernel_rfl) hd with ⟨_,hx⟩ | ⟨a,len,cap,m,n,V,D,Pl,hcs,_,hl,_,hmm,hx,hV⟩
 ·cases hx
 ·have h1:kwL.map (fun z=>(DataW.lit (.string z):DataW Unit))=(List.range len).map D:=by
   have:=congrArg Prod.fst hx
   simp only [strsD,DataW.slice.injEq] at this
   exact this.1
  have hlen:len=16:=by
   have:=congrArg List.length h1
   simpa [kwL] using this.symm
  subst hlen
  have hm16:16<=m:=by rw [hmm];split <;> omega
  have key:∀ j,j<16->W.cell? (a.add j)=some (.string ⟨(kwL.getD j []).toArray⟩):=fun j hj=>by
   obtain ⟨h2,h3⟩:=hV j (by omega)
   obtain ⟨s,e1,e2,_⟩:=DataW.trod_string Tryz.underlying9 h3
   simp only [List.cons.injEq,and_true] at e1
   have e3:D j=.lit (.string s.data.toList):=congrArg Prod.fst e2
   have h4:=congrArg (fun l=>l[j]?) h1
   have hjk:j<kwL.length:=by simpa [kwL] using hj
   simp only [List.getElem?_map,List.getElem?_range hj,List.getElem?_eq_getElem hjk,Option.map_some,Option.some.injEq,e3,DataW.lit.injEq,Lit.string.injEq] at h4
   rw [h2,e1,List.getD_eq_getElem?_getD,List.getElem?_eq_getElem hjk,Option.getD_some,h4]
  obtain ⟨b,off,spot⟩:=a
  have hspot:spot=none:=by simpa [Addr.add] using World.cell?_spot (key 0 (by omega))
  subst hspot
  have hadd:∀ j,(⟨b,off,none⟩:Addr).add j=⟨b,off+j,none⟩:=fun j=>by unfold Addr.add;split <;> simp_all
  refine ⟨b,off,cap,?_,fun j hj=>by rw [<- hadd];exact key j hj⟩
  have h5:=World.var?_cell hg hvar 0
  rw [h5]
  have h6:=congrArg (fun l=>l[0]?) hcs
  simpa using h6
theorem fo_of {W:World} {rest:List (String × DataW Unit)} (h:laidMet Tryz.prog (("weephole/prog.forms",formsD fieldsL) :: rest) W) :
  ∀ k,k<13->W.cell? ⟨4,3*k,none⟩=some (.bool (fieldsL.getD k (false,false,0)).1)/\W.cell? ⟨4,3*k+1,none⟩=some (.bool (fieldsL.getD k (false,false,0)).2.1)/\W.cell? ⟨4,3*k+2,none⟩=some (.int .i64 (fieldsL.getD k (false,false,0)).2.2):=by
 obtain ⟨ps,⟨g',t',cs,fuel,p,q,hg',ht',hvar,hd,_,_⟩,_⟩:=h
 have hg:Tryz.prog.globalNamed "weephole/prog.forms"=some 4:=by kernel_rfl
 have hty:(Tryz.prog.globals[4]?).map (·.type)=some 232:=by kernel_rfl
 obtain rfl:=Option.some.inj (hg.symm.trans hg')
 obtain rfl:=Option.some.inj (hty.symm.trans ht')
 obtain ⟨xs,m,_,hx,_,hlen,hf⟩:=DataW.trod_array Tryz.underlying232 hd
 have hc3:Tryz.prog.cellsOf 231=3:=by kernel_rfl
 have hcb:Tryz.prog.cellsOf 4=1:=by kernel_rfl
 have hci:Tryz.prog.cellsOf 3=1:=by kernel_rfl
 have h1:fieldsL.map (fun f=>(DataW.agg [.lit (.bool f.1),.lit (.bool f.2.1),.lit (.int .i64 f.2.2)]:DataW Unit))=xs.map (·.1):=by
  have:=congrArg Prod.fst hx
  simpa only [formsD,DataW.agg.injEq] using this
 intro k hk
 have hk2:k<fieldsL.length:=by simpa [fieldsL] using hk
 have hkx:k<xs.length:=by omega
 have h2:=hf k hk
 rw [hc3,List.getElem?_eq_getElem hkx] at h2
 have h4:=congrArg (fun l=>l[k]?) h1
 simp only [List.getElem?_map,List.getElem?_eq_getElem hk2,List.getElem?_eq_getElem hkx,Option.map_some,Option.some.injEq] at h4
 obtain ⟨y0,y1,y2,n1,hx3,h30,k0,k1,k2⟩:=Deep.trod_struct3 Tryz.underlying231 h2
 rw [hx3] at h4
 simp only [DataW.agg.injEq,List.cons.injEq,and_true] at h4
 obtain ⟨g0,g1,g2⟩:=h4
 rw [hc3] at h30
 simp only [hcb,hci] at k0 k1 k2
 obtain ⟨b0,e0,q0⟩:=DataW.trod_bool Tryz.underlying4 k0
 obtain ⟨b1,e1,q1⟩:=DataW.trod_bool Tryz.underlying4 k1
 obtain ⟨i2,e2,q2,_⟩:=DataW.trod_int Tryz.underlying3 k2
 rw [q0] at g0
 rw [q1] at g1
 rw [q2] at g2
 simp only [DataW.lit.injEq,Lit.bool.injEq,Lit.int.injEq,true_and] at g0 g1 g2
 have hgd:fieldsL.getD k (false,false,0)=fieldsL[k]:=by rw [List.getD_eq_getElem?_getD,List.getElem?_eq_getElem hk2,Option.getD_some]
 rw [hgd,g0,g1,g2]
 have c0:=congrArg (fun l=>l[0]?) e0
 have c1:=congrArg (fun l=>l[0]?) e1
 have c2:=congrArg (fun l=>l[0]?) e2
 simp only [List.getElem?_take,List.getElem?_drop,Nat.add_zero,Nat.zero_lt_one,if_true,Nat.reduceLT,if_pos,List.getElem?_cons_zero,Nat.zero_add] at c0 c1 c2
 have v0:=World.var?_cell hg hvar (3*k)
 have v1:=World.var?_cell hg hvar (3*k+1)
 have v2:=World.var?_cell hg hvar (3*k+2)
 rw [v0,v1,v2]
 rw [Nat.mul_comm k 3] at c0 c1 c2
 exact ⟨by simpa using c0,by simpa using c1,by simpa using c2⟩
open Go.ChangeShapes Go.WideShapes Go.ChangeAt Go.WideMaps Go.WideElems Go.RowKit
abbrev laidPa4:List (String × DataW Unit):=[("unicode/utf8.acceptRanges",Rows.laid_unicode_utf8_acceptRanges),("weephole/prog.keywords",Rows.laid_weephole_prog_keywords),("weephole/prog.forms",Rows.laid_weephole_prog_forms),("unicode/utf8.first",Rows.laid_unicode_utf8_first)]
theorem pre_of_laid4 {W:World} (h:laidMetH Tryz.prog laidPa4 W):PrE0 W:=by
 rw [MakeChecks.laidMetH_plain _ _ _ (by kernel_rfl)] at h
 refine ⟨?_,?_⟩
 ·exact kw_of (show laidMet Tryz.prog (("weephole/prog.keywords",strsD kwL) :: [("weephole/prog.forms",Rows.laid_weephole_prog_forms),("unicode/utf8.first",Rows.laid_unicode_utf8_first)]) W from h.tail)
 ·exact fo_of (show laidMet Tryz.prog (("weephole/prog.forms",formsD fieldsL) :: [("unicode/utf8.first",Rows.laid_unicode_utf8_first)]) W from h.tail.tail)
end Go.Proofs.YtoofbgoeipijcaaGreatDoor
