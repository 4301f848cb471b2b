/-
 A part.
-/
import Derived.Test.YtoofbgoeipijcaaGreatDoorVSPjO
import Derived.Test.YtoofbgoeipijcaaGreatDoorVB46
namespace Go.Proofs.YtoofbgoeipijcaaGreatDoor
set_option linter.all false
open Go.RowKit Go.Shelf
attribute [local go_sem] Oper.semAt_some
theorem big_ok (n:Nat):PgOk (bigP n):=⟨fun f hf=>(by cases hf),fun x hx=>by obtain ⟨i,-,rfl⟩:=List.mem_map.1 hx;exact ⟨by show (1:Nat)<=255;decide,by show (4:Nat)<=255;decide⟩⟩
theorem big_num (n:Nat) (h:n<=1024):NumP (bigP n):=⟨fun f hf=>(by cases hf),fun x hx=>by
 obtain ⟨i,hi,rfl⟩:=List.mem_map.1 hx
 have hi':=List.mem_range.1 hi
 intro a ha
 rcases List.mem_cons.1 ha with rfl | ha
 ·show (18446744073709551615:Nat)<=18446744073709551615;decide
 ·rw [List.mem_singleton] at ha;subst ha;show 9223372036854775808+i<=18446744073709551615;omega⟩
theorem big_at (n j:Nat):bodyAt (bigP n) j=(List.range n).map bigI:=by
 unfold bodyAt
 rw [dif_neg (by show ¬ j<0;omega)]
 rfl
theorem big_rlen (n:Nat) (h:n<=1024):RLen (bigP n):=by
 refine ⟨by show (0:Nat)<=_;omega,?_,by show (0:Nat)<=_;omega,fun s hs=>(by cases hs),fun a ha=>(by cases ha),fun f hf=>(by cases hf),fun j x hx=>?_⟩
 ·show ([]++(List.range n).map bigI).length<=_
  rw [List.nil_append,List.length_map,List.length_range];omega
 ·rw [big_at] at hx
  obtain ⟨i,-,rfl⟩:=List.mem_map.1 hx
  refine ⟨by show (4:Nat)<=255;decide,by show (25:Nat)<=_;decide,by show (0:Nat)<=_;decide,fun a ha=>?_⟩
  rcases List.mem_cons.1 ha with rfl | ha
  ·show (0:Nat)<=_;decide
  ·rw [List.mem_singleton] at ha;subst ha;show (0:Nat)<=_;decide
theorem one_q {x:In} (h:QI x) (mb:Bool):QP (oneP x mb):=by
 obtain ⟨h1,h2,h3,h4,h5,h6⟩:=h
 have hx:QI (oneX x):=⟨h1,h2,h3,h4,h5,by show (-9223372036854775808:Int)<=9/\(9:Int)<=_;decide,by show (-9223372036854775808:Int)<=2/\(2:Int)<=_;decide⟩
 have hl:QI oneL:=⟨by decide,by decide,by decide,fun a ha=>(by cases ha),by decide,by decide,by decide⟩
 have hm:∀ y ∈ ([oneX x,oneL]:List In),QI y:=fun y hy=>by
  rcases List.mem_cons.1 hy with rfl | hy
  ·exact hx
  ·rw [List.mem_singleton] at hy;subst hy;exact hl
 have hm2:∀ y ∈ ([oneL,oneX x]:List In),QI y:=fun y hy=>by
  rcases List.mem_cons.1 hy with rfl | hy
  ·exact hl
  ·rw [List.mem_singleton] at hy;subst hy;exact hx
 refine ⟨by show (-9223372036854775808:Int)<=4/\(4:Int)<=_;decide,fun s hs=>?_,fun a ha=>?_,fun f hf=>?_,?_⟩
 ·rw [show (oneP x mb).chans=[[99]] from rfl,List.mem_singleton] at hs;subst hs;show (1:Nat)<=_;decide
 ·rw [show (oneP x mb).arrays=[⟨[97],3⟩] from rfl,List.mem_singleton] at ha;subst ha;exact ⟨by decide,by decide,by decide⟩
 ·rcases List.mem_cons.1 (show f ∈ (⟨[102],[[112]],[],(3,1)⟩:Fu) :: [⟨[103],[],if mb then [] else [oneL,oneX x],(5,1)⟩] from hf) with rfl | hf
  ·exact ⟨by decide,fun s hs=>by rw [List.mem_singleton] at hs;subst hs;show (1:Nat)<=_;decide,fun y hy=>(by cases hy),by decide,by decide,by decide⟩
  ·rw [List.mem_singleton] at hf;subst hf
   refine ⟨by show (1:Nat)<=_;decide,fun s hs=>(by cases hs),fun y hy=>?_,by show (-9223372036854775808:Int)<=5/\(5:Int)<=_;decide,by show (-9223372036854775808:Int)<=1;decide,by show (1:Int)<=_;decide⟩
   cases mb
   ·exact hm2 y hy
   ·cases hy
 ·cases mb
  ·exact fun y hy=>(by cases hy)
  ·exact hm
theorem qi_of {kd op:Nat} {d n:Bs} {l:List Ag} (h1:kd<=255) (h2:op<=255) (h3:d.length<=10) (h4:n.length<=10) (h5:∀ a ∈ l,a.nm.length<=10/\a.num<18446744073709551616) (h6:l.length<=10):QI ⟨kd,op,d,n,l,(0,0)⟩ :=
 ⟨⟨h1,h2⟩,by show d.length<=_;omega,by show n.length<=_;omega,fun a ha=>⟨by have:=(h5 a ha).1;omega,(h5 a ha).2⟩,by show l.length<=_;omega,by show (-9223372036854775808:Int)<=0/\(0:Int)<=_;decide,by show (-9223372036854775808:Int)<=0/\(0:Int)<=_;decide⟩
theorem sl_of {B e:Nat} {W:World} {v:Value} {l:List Ag} (h:GR kAg (fun _=>False) B e W v l) (hl:l.length<=1000):SlG kAg (·<W.heap.size) W v l:=(h.sl (by omega)).weaken fun j hj=>hj.elim (fun e=>e.elim) (fun e=>(h.lt j e).2)
theorem gr_of {B e:Nat} {W:World} {v:Value} {l:List Ag} (h:GA kAg B e W v l):GR kAg (fun _=>False) B e W v l:=let ⟨css,h1,h2⟩:=h.row;⟨css,⟨h1.1,fun i hi hi'=>h1.2 i hi hi'⟩,h2⟩
theorem gr_bel {B e:Nat} {W W':World} {v:Value} {l:List Ag} (h:GR kAg (fun _=>False) B e W v l) (hb:Below W.heap.size W W'):GR kAg (fun _=>False) B e W' v l:=h.keep (fun _ h=>h.elim) (fun j hj=>hb.block j (h.lt j hj).2)
set_option maxRecDepth 100000 in
set_option maxHeartbeats 4000000 in
theorem examples_any (w:World) (hE:PrE w):Calls Tryz.prog 4 #[] w fun e w'=>e=.returned (.bool true)/\Below w.heap.size w w':=by
 have HE:=hid hE
 clear hE
 go_enter Tryz.func4,Tryz.ntmps4
 go_upto_region 3 with fail
 obtain ⟨w2,hw2⟩:∃ W,(w.alloc (.cells #[.string ⟨#[]⟩,.string ⟨#[120]⟩,.string ⟨#[101,110,100]⟩,.string ⟨#[49]⟩] 9)).alloc (.cells #[.int .u64 0,.int .u64 1,.int .u64 9,.int .u64 10,.int .u64 99,.int .u64 100,.int .u64 4294967295,.int .u64 9223372036854775808,.int .u64 18446744073709551615] 35)=W:=⟨_,rfl⟩
 have HB2:=hid (show Below w.heap.size w w2 from by rw [<- hw2];exact (bA).alloc (by rw [sA];omega) _)
 have HNM:=hid (show BxL 9 w.heap.size [.string ⟨#[]⟩,.string ⟨#[120]⟩,.string ⟨#[101,110,100]⟩,.string ⟨#[49]⟩] w2 from by rw [<- hw2];exact (BxL.new _ _ _).al _)
 have HNU:=hid (show BxL 35 (w.heap.size+1) [.int .u64 0,.int .u64 1,.int .u64 9,.int .u64 10,.int .u64 99,.int .u64 100,.int .u64 4294967295,.int .u64 9223372036854775808,.int .u64 18446744073709551615] w2 from by rw [<- hw2];have h9:=BxL.new 35 (w.alloc (.cells #[.string ⟨#[]⟩,.string ⟨#[120]⟩,.string ⟨#[101,110,100]⟩,.string ⟨#[49]⟩] 9)) [.int .u64 0,.int .u64 1,.int .u64 9,.int .u64 10,.int .u64 99,.int .u64 100,.int .u64 4294967295,.int .u64 9223372036854775808,.int .u64 18446744073709551615];rw [sA] at h9;exact h9)
 rw [hw2]
 clear hw2
 have HNC:=hid (show ∀ q,q<4->∀ W,Below w2.heap.size w2 W->W.cell? ⟨w.heap.size,q,none⟩=some (.string ⟨(namesE.getD q []).toArray⟩) from fun q hq W hb=>(HNM.bel hb).at q (by
  have:q=0\/q=1\/q=2\/q=3:=by omega
  rcases this with rfl | rfl | rfl | rfl <;> rfl))
 have HUC:=hid (show ∀ q,q<9->∀ W,Below w2.heap.size w2 W->W.cell? ⟨w.heap.size+1,q,none⟩=some (.int .u64 ((numsE.getD q 0:Nat):Int)) from fun q hq W hb=>(HNU.bel hb).at q (by
  have:q=0\/q=1\/q=2\/q=3\/q=4\/q=5\/q=6\/q=7\/q=8:=by omega
  rcases this with rfl | rfl | rfl | rfl | rfl | rfl | rfl | rfl | rfl <;> rfl))
 clear HNM HNU
 go_wp2_with fail
 go_loopw [3,4,5,6,7,8] (fun kv u4 u5 u6 u7 u8 wr=>∃ k:Nat,k<=14/\kv=.int .i64 (k:Int)/\Below w2.heap.size w2 wr) (fun kv _ _ _ _ _ _=>14 - (intOf kv).toNat)
 case atStart=>exact ⟨0,by omega,rfl,Below.refl _ _⟩
 case round =>
  obtain ⟨kd,hkd,rfl,hbr⟩:=hrel
  by_cases hlt:kd<14
  ·have t1:decide ((kd:Int)<14)=true:=decide_eq_true (by omega)
   have HBr:=hid hbr
   clear hbr
   go_wp2_with fail
   go_loopw [4,5,6,7,8] (fun iv u5 u6 u7 u8 wi=>∃ i:Nat,i<=108/\iv=.int .i64 (i:Int)/\Below w2.heap.size w2 wi) (fun iv _ _ _ _ _=>108 - (intOf iv).toNat)
   case atStart=>exact ⟨0,by omega,rfl,HBr.out⟩
   case round =>
    obtain ⟨i,hi,rfl,hbi⟩:=hrel
    obtain ⟨wi,rfl⟩:∃ w:World,w=wr:=⟨_,rfl⟩
    by_cases hli:i<108
    ·have t2:decide ((i:Int)<108)=true:=decide_eq_true (by omega)
     have HBi:=hid hbi
     clear hbi
     obtain ⟨q1,hq1⟩:∃ q,i % 4=q:=⟨_,rfl⟩
     obtain ⟨q2,hq2⟩:∃ q,i / 4 % 3=q:=⟨_,rfl⟩
     obtain ⟨q3,hq3⟩:∃ q,i % 5 / 4=q:=⟨_,rfl⟩
     have l1:q1<4:=by omega
     have l2:q2<3:=by omega
     have l3:q3<2:=by omega
     have r1:(q1:Int)<4:=by omega
     have r2:(q2:Int)<4:=by omega
     obtain ⟨n1,hn1⟩:∃ x,namesE.getD q1 []=x:=⟨_,rfl⟩
     obtain ⟨n2,hn2⟩:∃ x,namesE.getD q2 []=x:=⟨_,rfl⟩
     have HN1:=hid (show ∀ W,Below w2.heap.size w2 W->W.cell? ⟨w.heap.size,q1,none⟩=some (.string ⟨n1.toArray⟩) from fun W hb=>by rw [<- hn1];exact HNC.out q1 (by omega) W hb)
     have HN2:=hid (show ∀ W,Below w2.heap.size w2 W->W.cell? ⟨w.heap.size,q2,none⟩=some (.string ⟨n2.toArray⟩) from fun W hb=>by rw [<- hn2];exact HNC.out q2 (by omega) W hb)
     have e1:Int.tmod (i:Int) 4=(q1:Int):=by rw [Int.tmod_eq_emod_of_nonneg (by omega)];omega
     have e1':(i:Int) % 4=(q1:Int):=by omega
     obtain ⟨i4,hi4⟩:∃ q,i / 4=q:=⟨_,rfl⟩
     obtain ⟨i5,hi5⟩:∃ q,i % 5=q:=⟨_,rfl⟩
     have e2:IntKind.i64.wrap ((i:Int) / 4)=(i4:Int):=by rw [show (i:Int) / 4=(i4:Int) by omega];exact IntWalk.i64_in _ (by omega)
     have e2':Int.tmod (i4:Int) 3=(q2:Int):=by rw [Int.tmod_eq_emod_of_nonneg (by omega)];omega
     have e3:Int.tmod (i:Int) 5=(i5:Int):=by rw [Int.tmod_eq_emod_of_nonneg (by omega)];omega
     have e3':IntKind.i64.wrap ((i5:Int) / 4)=(q3:Int):=by rw [show (i5:Int) / 4=(q3:Int) by omega];exact IntWalk.i64_in _ (by omega)
     have e4:IntKind.u8.wrap (kd:Int)=(kd:Int):=IntWalk.u8_in _ (by omega)
     have e5:IntKind.u8.wrap (q3:Int)=(q3:Int):=IntWalk.u8_in _ (by omega)
     have HNL:=hid (show n1.length<=10/\n2.length<=10 from by have h1:=names_le q1;have h2:=names_le q2;rw [hn1] at h1;rw [hn2] at h2;omega)
     clear hq1 hq2 hq3 hn1 hn2 hi4 hi5
     go_upto_region 9 with fail
     have HBd:=hid (show Below w2.heap.size w2 wi.drew from HBi.drew)
     have hS:(fun W:World=>W.cell? ⟨w.heap.size,q1,none⟩=some (.string ⟨n1.toArray⟩)/\W.cell? ⟨w.heap.size,q2,none⟩=some (.string ⟨n2.toArray⟩)) wi.drew:=⟨HN1.out _ HBd.out,HN2.out _ HBd.out⟩
     have hFa:=fT
     refine rgN (fun W:World=>W.cell? ⟨w.heap.size,q1,none⟩=some (.string ⟨n1.toArray⟩)/\W.cell? ⟨w.heap.size,q2,none⟩=some (.string ⟨n2.toArray⟩)) 19 (by kernel_rfl) ?_
     simp only [zP,Nat.reduceAdd]
     generalize wi.drew=wd at *
     iterate 18 (refine nxW (v:=?_) 20 hS ?_ ?_;rotate_left;(focus rintro w' ⟨s0,s1⟩;(try go_simp);try rfl);simp only [aP])
     refine oy 18 fun K hK=>?_
     go_simp
     obtain ⟨wa,hwa⟩:∃ X,wd.alloc (.cells #[.int .u8 0,.int .u8 0,.string ⟨#[]⟩,.string ⟨#[]⟩,.slice none 0 0,.int .i64 0,.int .i64 0] 41)=X:=⟨_,rfl⟩
     have HBa:=hid (show Below w2.heap.size w2 wa from by rw [<- hwa];exact HBd.alloc HBd.size _)
     have HYa:=hid (show BxL 41 wd.heap.size [.int .u8 0,.int .u8 0,.string ⟨#[]⟩,.string ⟨#[]⟩,.slice none 0 0,.int .i64 0,.int .i64 0] wa from by rw [<- hwa];exact BxL.new _ _ _)
     have hSa:(fun W:World=>W.cell? ⟨w.heap.size,q1,none⟩=some (.string ⟨n1.toArray⟩)/\W.cell? ⟨w.heap.size,q2,none⟩=some (.string ⟨n2.toArray⟩)) wa:=⟨HN1.out _ HBa.out,HN2.out _ HBa.out⟩
     rw [hwa]
     clear hwa
     refine hK _ _ (.inr (.inr hSa)) ?_
     clear hK K
     refine oy 19 fun K hK=>?_
     have c0:=HYa.at 0 rfl;have c1:=HYa.at 1 rfl;have c2:=HYa.at 2 rfl;have c3:=HYa.at 3 rfl;have c4:=HYa.at 4 rfl;have c5:=HYa.at 5 rfl;have c6:=HYa.at 6 rfl
     have f0:=HYa.fr 0;have f1:=HYa.fr 1;have f2:=HYa.fr 2;have f3:=HYa.fr 3;have f4:=HYa.fr 4;have f5:=HYa.fr 5;have f6:=HYa.fr 6
     go_simp
     refine hK _ _ (.inl rfl) (dN ?_)
     clear hK K
     simp only [onlyN,Exit.then]
     clear hFa
     clear c0 c1 c2 c3 c4 c5 c6 f0 f1 f2 f3 f4 f5 f6 hSa
     obtain ⟨wb,hwb⟩:∃ X,(((((((wa.setCell ⟨wd.heap.size,0,none⟩ (.int .u8 (kd:Int))).setCell ⟨wd.heap.size,1,none⟩ (.int .u8 (q3:Int))).setCell ⟨wd.heap.size,2,none⟩ (.string ⟨n1.toArray⟩)).setCell ⟨wd.heap.size,3,none⟩ (.string ⟨n2.toArray⟩)).setCell ⟨wd.heap.size,4,none⟩ (.slice none 0 0)).setCell ⟨wd.heap.size,5,none⟩ (.int .i64 0)).setCell ⟨wd.heap.size,6,none⟩ (.int .i64 0))=X:=⟨_,rfl⟩
     have HBb:=hid (show Below w2.heap.size w2 wb from by rw [<- hwb];exact (((((((HBa.setCell (p:=⟨wd.heap.size,0,none⟩) HBd.size _).setCell (p:=⟨wd.heap.size,1,none⟩) HBd.size _).setCell (p:=⟨wd.heap.size,2,none⟩) HBd.size _).setCell (p:=⟨wd.heap.size,3,none⟩) HBd.size _).setCell (p:=⟨wd.heap.size,4,none⟩) HBd.size _).setCell (p:=⟨wd.heap.size,5,none⟩) HBd.size _).setCell (p:=⟨wd.heap.size,6,none⟩) HBd.size _))
     have HYb:=hid (show BxL 41 wd.heap.size [.int .u8 (kd:Int),.int .u8 (q3:Int),.string ⟨n1.toArray⟩,.string ⟨n2.toArray⟩,.slice none 0 0,.int .i64 0,.int .i64 0] wb from by rw [<- hwb];exact (((((((HYa.set 0 _).set 1 _).set 2 _).set 3 _).set 4 _).set 5 _).set 6 _))
     rw [hwb]
     clear hwb
     have HBX:=hid HBd.size
     clear HBd HBa HYa
     generalize wd.heap.size=bx at *
     obtain ⟨mk,hmk⟩:∃ q,i / 12 % 4=q:=⟨_,rfl⟩
     obtain ⟨i12,hi12⟩:∃ q,i / 12=q:=⟨_,rfl⟩
     have g1:IntKind.i64.wrap ((i:Int) / 12)=(i12:Int):=by rw [show (i:Int) / 12=(i12:Int) by omega];exact IntWalk.i64_in _ (by omega)
     have g2:Int.tmod (i12:Int) 4=(mk:Int):=by rw [Int.tmod_eq_emod_of_nonneg (by omega)];omega
     have lmk:mk<=3:=by omega
     have HMK:=hid hmk
     clear hmk hi12
     go_wp2_with fail
     go_loopw [6] (fun kv wk=>∃ (k:Nat) (av:Value),k<=mk/\kv=.int .i64 (k:Int)/\BxL 41 bx [.int .u8 (kd:Int),.int .u8 (q3:Int),.string ⟨n1.toArray⟩,.string ⟨n2.toArray⟩,av,.int .i64 0,.int .i64 0] wk/\GR kAg (fun _=>False) (bx+1) 43 wk av (exArgs i k)/\Below w2.heap.size w2 wk) (fun kv _=>mk - (intOf kv).toNat)
     case atStart=>exact ⟨0,_,Nat.zero_le _,rfl,HYb.out,GR.nil _ _ _ _ _,HBb.out⟩
     case round =>
      obtain ⟨k,av,hk,rfl,hy,hg,hb⟩:=hrel
      obtain ⟨wk,rfl⟩:∃ w:World,w=wr:=⟨_,rfl⟩
      obtain ⟨p0,c0,rfl⟩:=hg.slc
      have HGk:=hid hg;have HYk:=hid hy;have HBk:=hid hb
      rw [exArgs_len] at HYk HGk
      clear hg hy hb
      by_cases hlk:k<mk
      ·have t3:decide ((k:Int)<(mk:Int))=true:=decide_eq_true (by omega)
       obtain ⟨q9,hq9⟩:∃ q,(i+k) % 9=q:=⟨_,rfl⟩
       obtain ⟨n9,hn9⟩:∃ x,numsE.getD q9 0=x:=⟨_,rfl⟩
       have l9:q9<9:=by omega
       have r9:(q9:Int)<9:=by omega
       have h1:IntKind.i64.wrap ((i:Int)+(k:Int))=(i:Int)+(k:Int):=IntWalk.i64_in _ (by omega)
       have h2:Int.tmod ((i:Int)+(k:Int)) 9=(q9:Int):=by rw [Int.tmod_eq_emod_of_nonneg (by omega)];omega
       have HN9:=hid (show ∀ W,Below w2.heap.size w2 W->W.cell? ⟨w.heap.size+1,q9,none⟩=some (.int .u64 (n9:Int)) from fun W hb=>by rw [<- hn9];exact HUC.out q9 l9 W hb)
       have HS9:=hid (show exArgs i (k+1)=exArgs i k++[⟨[],n9⟩] from by rw [<- hn9,<- hq9];exact exArgs_succ i k)
       clear hq9 hn9
       go_upto_region 13 with fail
       have HBd:=hid (show Below w2.heap.size w2 wk.drew from HBk.drew)
       have HYd:=hid (show BxL 41 bx [.int .u8 (kd:Int),.int .u8 (q3:Int),.string ⟨n1.toArray⟩,.string ⟨n2.toArray⟩,(.slice p0 k c0),.int .i64 0,.int .i64 0] wk.drew from HYk.out)
       have HGd:=hid (show GR kAg (fun _=>False) (bx+1) 43 wk.drew (.slice p0 k c0) (exArgs i k) from HGk.keep (fun _ h=>h.elim) (fun _ _=>rfl))
       have hS:(fun W:World=>W.cell? ⟨bx,4,none⟩=some (.slice p0 k c0)/\W.cell? ⟨w.heap.size+1,q9,none⟩=some (.int .u64 (n9:Int))) wk.drew:=⟨HYd.at 4 rfl,HN9.out _ HBd.out⟩
       have hFa:=fT
       refine rgN (fun W:World=>W.cell? ⟨bx,4,none⟩=some (.slice p0 k c0)/\W.cell? ⟨w.heap.size+1,q9,none⟩=some (.int .u64 (n9:Int))) 13 (by kernel_rfl) ?_
       simp only [zP,Nat.reduceAdd]
       generalize wk.drew=wd at *
       iterate 10 (refine nxW (v:=?_) 14 hS ?_ ?_;rotate_left;(focus rintro w' ⟨s0,s1⟩;(try go_simp);try rfl);simp only [aP])
       refine oy 10 fun K hK=>?_
       go_simp
       obtain ⟨we,hwe⟩:∃ X,wd.alloc (.cells #[.string ⟨#[]⟩,.int .u64 (n9:Int)] 43)=X:=⟨_,rfl⟩
       have HBe:=hid (show Below w2.heap.size w2 we from by rw [<- hwe];exact HBd.alloc HBd.size _)
       have HZe:=hid (show BxL 43 wd.heap.size [.string ⟨#[]⟩,.int .u64 (n9:Int)] we from by rw [<- hwe];exact BxL.new _ _ _)
       have HYe:=hid (show BxL 41 bx [.int .u8 (kd:Int),.int .u8 (q3:Int),.string ⟨n1.toArray⟩,.string ⟨n2.toArray⟩,(.slice p0 k c0),.int .i64 0,.int .i64 0] we from by rw [<- hwe];exact HYd.al _)
       have HGe:=hid (show GR kAg (fun _=>False) (bx+1) 43 we (.slice p0 k c0) (exArgs i k) from by rw [<- hwe];exact HGd.keep (fun _ h=>h.elim) (fun j hj=>by rw [heap_al,if_neg (by have:=(HGd.lt j hj).2;omega)]))
       have hSe:(fun W:World=>W.cell? ⟨bx,4,none⟩=some (.slice p0 k c0)/\W.cell? ⟨w.heap.size+1,q9,none⟩=some (.int .u64 (n9:Int))) we:=⟨HYe.at 4 rfl,HN9.out _ HBe.out⟩
       rw [hwe]
       clear hwe
       refine hK _ _ (.inr (.inr hSe)) ?_
       clear hK K
       refine oy 11 fun K hK=>?_
       refine wpIn_pushJ (R:=fun _=>False) (B:=bx+1) (K:=kAg) (v := .slice p0 k c0) (l:=exArgs i k) (x:=⟨[],n9⟩) (cs:=[.string ⟨#[]⟩,.int .u64 (n9:Int)]) (te:=43) hFa (.tmp 51) (.tmp 60) 37 rfl Tryz.underlying37 _ 24 info_ag rfl HGe.out (fun _ hi=>hi.elim) rfl HZe.out (by rfl) (by rfl) (by rw [exArgs_len];omega) (by rw [exArgs_len];unfold maxLen;omega) (by have:=HYe.lt;omega) ?_
       intro v' wf hgf hgr hm
       obtain ⟨pf,cf,rfl⟩:=hgf.slc
       have hnf:(exArgs i k++[(⟨[],n9⟩:Ag)]).length=k+1:=by rw [List.length_append,exArgs_len];rfl
       rw [hnf] at hgf
       rw [hnf]
       clear hnf
       have HGf:=hid hgf
       have HBf:=hid (show Below w2.heap.size w2 wf from HBe.trans ⟨hgr.os,hgr.tape,hgr.output,hgr.size,fun j hj=>hgr.block j (Nat.lt_of_lt_of_le hj HBe.size) fun e=>by have:=(HGe.lt j e.symm).1;have:=HBX.out;omega⟩)
       have HYf:=hid (HYe.keep (hgr.block bx HYe.lt fun e=>by have:=(HGe.lt bx e.symm).1;omega))
       have hSf:(fun W:World=>W.cell? ⟨bx,4,none⟩=some (.slice p0 k c0)/\W.cell? ⟨w.heap.size+1,q9,none⟩=some (.int .u64 (n9:Int))) wf:=⟨HYf.at 4 rfl,HN9.out _ HBf.out⟩
       clear hgf hgr hm hSe
       refine hK _ _ (.inr (.inr hSf)) ?_
       clear hK K
       (refine nxW (v:=?_) 14 hSf ?_ ?_;rotate_left;(focus rintro w' ⟨s0,s1⟩;(try go_simp);try rfl);simp only [aP])
       refine oy 13 fun K hK=>?_
       have c4:=HYf.at 4 rfl;have f4:=HYf.fr 4
       go_simp
       refine hK _ _ (.inl rfl) (dN ?_)
       clear hK K
       simp only [onlyN,Exit.then]
       clear hFa
       clear c4 f4 hSf
       obtain ⟨wg,hwg⟩:∃ X,wf.setCell ⟨bx,4,none⟩ (.slice pf (k+1) cf)=X:=⟨_,rfl⟩
       have HBg:=hid (show Below w2.heap.size w2 wg from by rw [<- hwg];exact HBf.setCell (p:=⟨bx,4,none⟩) HBX.out _)
       have HYg:=hid (show BxL 41 bx [.int .u8 (kd:Int),.int .u8 (q3:Int),.string ⟨n1.toArray⟩,.string ⟨n2.toArray⟩,(.slice pf (k+1) cf),.int .i64 0,.int .i64 0] wg from by rw [<- hwg];exact HYf.set 4 _)
       have HGg:=hid (show GR kAg (fun _=>False) (bx+1) 43 wg (.slice pf (k+1) cf) (exArgs i k++[⟨[],n9⟩]) from by rw [<- hwg];exact HGf.keep (fun _ h=>h.elim) (fun j hj=>heap_ot (by have:=(HGf.lt j hj).1;omega) _))
       rw [hwg]
       clear hwg
       go_wp2_with fail
       go_roundw
       case rel=>exact ⟨k+1,.slice pf (k+1) cf,by omega,by go_num,HYg.out,by rw [HS9.out];exact HGg.out,HBg.out⟩
       case measure=>simp [intOf];omega
      ·obtain rfl:k=mk:=by omega
       have t3:decide ((k:Int)<(k:Int))=false:=decide_eq_false (by omega)
       clear hlk hk
       have HSX:=hid (sl_of HGk.out (by rw [exArgs_len];omega))
       have HBK:=hid HYk.lt
       have HCI:=hid (copyinstr_any (⟨kd,q3,n1,n2,exArgs i k,(0,0)⟩:In) (.slice p0 k c0) wk HSX.out (by show (exArgs i k).length<=_;rw [exArgs_len];omega))
       have a0:=HYk.at 0 rfl;have a1:=HYk.at 1 rfl;have a2:=HYk.at 2 rfl;have a3:=HYk.at 3 rfl;have a4:=HYk.at 4 rfl;have a5:=HYk.at 5 rfl;have a6:=HYk.at 6 rfl
       go_upto_region 15 with (go_at_call 18;(with_reducible refine HCI.out.mono ?_);rintro e wl ⟨v',rfl,hga,hb⟩;have HGl:=hid (gr_of hga);have HBl:=hid hb;obtain ⟨p1,c1,rfl⟩:=hga.slc;clear hga hb a0 a1 a2 a3 a4 a5 a6)
       rw [show (⟨kd,q3,n1,n2,exArgs i k,(0,0)⟩:In).args.length=k from exArgs_len i k] at HGl
       rw [show (⟨kd,q3,n1,n2,exArgs i k,(0,0)⟩:In).args.length=k from exArgs_len i k]
       obtain ⟨wm,hwm⟩:∃ X,wl.alloc (.cells #[.int .u8 (kd:Int),.int .u8 (q3:Int),.string ⟨n1.toArray⟩,.string ⟨n2.toArray⟩,(.slice p1 k c1),.int .i64 0,.int .i64 0] 41)=X:=⟨_,rfl⟩
       have hbm:Below wl.heap.size wl wm:=by rw [<- hwm];exact bA
       have HBm:=hid (HBk.trans ((HBl.trans (hbm.mono HBl.size)).mono HBk.size))
       have HXm:=hid ((HYk.bel HBl.out).bel hbm)
       have HSm:=hid (show SlG kAg (·<wk.heap.size) wm (.slice p0 k c0) (exArgs i k) from HSX.keep fun j hj=>⟨hj,(HBl.trans (hbm.mono HBl.size)).block j hj⟩)
       have HGK:=hid HBl.size
       clear HSX
       have HYm:=hid (show BxL 41 wl.heap.size [.int .u8 (kd:Int),.int .u8 (q3:Int),.string ⟨n1.toArray⟩,.string ⟨n2.toArray⟩,(.slice p1 k c1),.int .i64 0,.int .i64 0] wm from by rw [<- hwm];exact BxL.new _ _ _)
       have HGm:=hid (gr_bel HGl.out hbm)
       have HOW:=hid (show ∀ j,Value.ownBlock (.slice p1 k c1)=some j->j ≠ wl.heap.size from fun j hj=>by have:=(HGl.lt j hj).2;omega)
       have HWL:=hid (Nat.le_trans HBk.size HBl.size)
       have HWK:=hid HBk.size
       rw [hwm]
       clear hwm hbm
       generalize wl.heap.size=by_ at *
       generalize wk.heap.size=bk at *
       obtain ⟨b2,hb2⟩:∃ q,i % 2=q:=⟨_,rfl⟩
       obtain ⟨q24,hq24⟩:∃ q,i % 24=q:=⟨_,rfl⟩
       have m1:Int.tmod (i:Int) 2=(b2:Int):=by rw [Int.tmod_eq_emod_of_nonneg (by omega)];omega
       have m2:IntKind.u64.wrap (b2:Int)=(b2:Int):=IntWalk.u64_in _ (by omega)
       have m3:Int.tmod (i:Int) 24=(q24:Int):=by rw [Int.tmod_eq_emod_of_nonneg (by omega)];omega
       have m4:IntKind.u8.wrap (q24:Int)=(q24:Int):=IntWalk.u8_in _ (by omega)
       have lb2:b2<=1:=by omega
       have lq24:q24<=23:=by omega
       clear hb2 hq24
       have HBd:=hid (show Below w2.heap.size w2 wm.drew from HBm.drew)
       have HXd:=hid (show BxL 41 bx [.int .u8 (kd:Int),.int .u8 (q3:Int),.string ⟨n1.toArray⟩,.string ⟨n2.toArray⟩,(.slice p0 k c0),.int .i64 0,.int .i64 0] wm.drew from HXm.out)
       have HSd:=hid (show SlG kAg (·<bk) wm.drew (.slice p0 k c0) (exArgs i k) from HSm.keep fun j hj=>⟨hj,rfl⟩)
       have HYd:=hid (show BxL 41 by_ [.int .u8 (kd:Int),.int .u8 (q3:Int),.string ⟨n1.toArray⟩,.string ⟨n2.toArray⟩,(.slice p1 k c1),.int .i64 0,.int .i64 0] wm.drew from HYm.out)
       have HGd:=hid (show GR kAg (fun _=>False) bk 43 wm.drew (.slice p1 k c1) (exArgs i k) from HGm.keep (fun _ h=>h.elim) (fun _ _=>rfl))
       have hS:(fun W:World=>W.cell? ⟨by_,4,none⟩=some (.slice p1 k c1)/\W.cell? ⟨w.heap.size,q1,none⟩=some (.string ⟨n1.toArray⟩)) wm.drew:=⟨HYd.at 4 rfl,HN1.out _ HBd.out⟩
       have hFa:=fT
       refine rgN (fun W:World=>W.cell? ⟨by_,4,none⟩=some (.slice p1 k c1)/\W.cell? ⟨w.heap.size,q1,none⟩=some (.string ⟨n1.toArray⟩)) 14 (by kernel_rfl) ?_
       simp only [zP,Nat.reduceAdd]
       generalize wm.drew=wd at *
       iterate 11 (refine nxW (v:=?_) 15 hS ?_ ?_;rotate_left;(focus rintro w' ⟨s0,s1⟩;(try go_simp);try rfl);simp only [aP])
       refine oy 11 fun K hK=>?_
       go_simp
       obtain ⟨we,hwe⟩:∃ X,wd.alloc (.cells #[.string ⟨n1.toArray⟩,.int .u64 (b2:Int)] 43)=X:=⟨_,rfl⟩
       have hbe:Below wd.heap.size wd we:=by rw [<- hwe];exact bA
       have HBe:=hid (HBd.trans (hbe.mono HBd.size))
       have HZe:=hid (show BxL 43 wd.heap.size [.string ⟨n1.toArray⟩,.int .u64 (b2:Int)] we from by rw [<- hwe];exact BxL.new _ _ _)
       have HYe:=hid (HYd.bel hbe);have HXe:=hid (HXd.bel hbe)
       have HSe:=hid (show SlG kAg (·<bk) we (.slice p0 k c0) (exArgs i k) from HSd.keep fun j hj=>⟨hj,hbe.block j (by have:=HYd.lt;have:=HGK.out;omega)⟩)
       have HGe:=hid (gr_bel HGd.out hbe)
       have hSe:(fun W:World=>W.cell? ⟨by_,4,none⟩=some (.slice p1 k c1)/\W.cell? ⟨w.heap.size,q1,none⟩=some (.string ⟨n1.toArray⟩)) we:=⟨HYe.at 4 rfl,HN1.out _ HBe.out⟩
       rw [hwe]
       clear hwe hbe
       refine hK _ _ (.inr (.inr hSe)) ?_
       clear hK K
       refine oy 12 fun K hK=>?_
       refine wpIn_pushJ (R:=fun _=>False) (B:=bk) (K:=kAg) (v:=(.slice p1 k c1)) (l:=exArgs i k) (x:=⟨n1,b2⟩) (cs:=[.string ⟨n1.toArray⟩,.int .u64 (b2:Int)]) (te:=43) hFa (.tmp 66) (.tmp 76) 37 rfl Tryz.underlying37 _ 24 info_ag rfl HGe.out (fun _ hi=>hi.elim) rfl HZe.out (by rfl) (by rfl) (by rw [exArgs_len];omega) (by rw [exArgs_len];unfold maxLen;omega) (by have:=HYe.lt;have:=HGK.out;omega) ?_
       intro v' wf hgf hgr hm
       obtain ⟨p2,c2,rfl⟩:=hgf.slc
       have hnf:(exArgs i k++[(⟨n1,b2⟩:Ag)]).length=k+1:=by rw [List.length_append,exArgs_len];rfl
       rw [hnf] at hgf hm
       rw [hnf]
       clear hnf
       have HGf:=hid hgf
       have HBf:=hid (show Below w2.heap.size w2 wf from HBe.trans ⟨hgr.os,hgr.tape,hgr.output,hgr.size,fun j hj=>hgr.block j (Nat.lt_of_lt_of_le hj HBe.size) fun e=>by have:=(HGe.lt j e.symm).1;have:=HWK.out;omega⟩)
       have HYf:=hid (HYe.keep (hgr.block by_ HYe.lt fun e=>HOW.out _ e.symm rfl))
       have hbef:Below bk we wf:=⟨hgr.os,hgr.tape,hgr.output,hgr.size,fun j hj=>hgr.block j (by have:=HYe.lt;have:=HGK.out;omega) fun e=>by have:=(HGe.lt j e.symm).1;omega⟩
       have HXf:=hid (HXe.keep (hbef.block bx HBK.out))
       have HOF:=hid (show ∀ j,Value.ownBlock (.slice p2 (k+1) c2)=some j->j ≠ by_ from fun j hj=>by
        rcases hm with e | ⟨j',e,hj'⟩
        ·exact HOW.out j (by rw [<- e];exact hj)
        ·rw [hj] at e;injection e with e;have:=HYe.lt;omega)
       have HSf:=hid (show SlG kAg (·<bk) wf (.slice p0 k c0) (exArgs i k) from HSe.keep fun j hj=>⟨hj,hbef.block j hj⟩)
       have hSf:(fun W:World=>W.cell? ⟨by_,4,none⟩=some (.slice p1 k c1)/\W.cell? ⟨w.heap.size,q1,none⟩=some (.string ⟨n1.toArray⟩)) wf:=⟨HYf.at 4 rfl,HN1.out _ HBf.out⟩
       clear hgf hgr hm hSe hbef
       refine hK _ _ (.inr (.inr hSf)) ?_
       clear hK K
       (refine nxW (v:=?_) 15 hSf ?_ ?_;rotate_left;(focus rintro w' ⟨s0,s1⟩;(try go_simp);try rfl);simp only [aP])
       refine oy 14 fun K hK=>?_
       have c4:=HYf.at 4 rfl;have f4:=HYf.fr 4
       go_simp
       refine hK _ _ (.inl rfl) (dN ?_)
       clear hK K
       simp only [onlyN,Exit.then]
       clear hFa
       clear c4 f4 hSf
       obtain ⟨wg,hwg⟩:∃ X,wf.setCell ⟨by_,4,none⟩ (.slice p2 (k+1) c2)=X:=⟨_,rfl⟩
       have HBg:=hid (show Below w2.heap.size w2 wg from by rw [<- hwg];exact HBf.setCell (p:=⟨by_,4,none⟩) HWL.out _)
       have HYg:=hid (show BxL 41 by_ [.int .u8 (kd:Int),.int .u8 (q3:Int),.string ⟨n1.toArray⟩,.string ⟨n2.toArray⟩,(.slice p2 (k+1) c2),.int .i64 0,.int .i64 0] wg from by rw [<- hwg];exact HYf.set 4 _)
       have HXg:=hid (show BxL 41 bx [.int .u8 (kd:Int),.int .u8 (q3:Int),.string ⟨n1.toArray⟩,.string ⟨n2.toArray⟩,(.slice p0 k c0),.int .i64 0,.int .i64 0] wg from by rw [<- hwg];exact HXf.otJ (by have:=HBK.out;have:=HGK.out;omega))
       have HSg:=hid (show SlG kAg (·<bk) wg (.slice p0 k c0) (exArgs i k) from by rw [<- hwg];exact HSf.keep fun j hj=>⟨hj,heap_ot (by have:=HGK.out;omega) _⟩)
       have HGg:=hid (show GR kAg (fun _=>False) bk 43 wg (.slice p2 (k+1) c2) (exArgs i k++[⟨n1,b2⟩]) from by rw [<- hwg];exact HGf.keep (fun _ h=>h.elim) (fun j hj=>heap_ot (HOF.out j hj) _))
       rw [hwg]
       clear hwg
       have c4:=HYg.at 4 rfl
       go_upto_region 17 with fail
       clear c4
       obtain ⟨wo,hwo⟩:∃ X,wg.alloc (.cells #[.int .u8 1,.int .u8 (q24:Int),.string ⟨#[100]⟩,.string ⟨#[]⟩,(.slice p2 (k+1) c2),.int .i64 0,.int .i64 0] 41)=X:=⟨_,rfl⟩
       have hbo:Below wg.heap.size wg wo:=by rw [<- hwo];exact bA
       have HBo:=hid (HBg.trans (hbo.mono HBg.size))
       have HZo:=hid (show BxL 41 wg.heap.size [.int .u8 1,.int .u8 (q24:Int),.string ⟨#[100]⟩,.string ⟨#[]⟩,(.slice p2 (k+1) c2),.int .i64 0,.int .i64 0] wo from by rw [<- hwo];exact BxL.new _ _ _)
       have HYo:=hid (HYg.bel hbo);have HXo:=hid (HXg.bel hbo)
       have HSx:=hid (show SlG kAg (·<wo.heap.size) wo (.slice p0 k c0) (exArgs i k) from HSg.keep fun j hj=>⟨by have:=HYg.lt;have:=HGK.out;have:=hbo.size;omega,hbo.block j (by have:=HYg.lt;have:=HGK.out;omega)⟩)
       have HSy:=hid (show SlG kAg (·<wo.heap.size) wo (.slice p2 (k+1) c2) (exArgs i k++[⟨n1,b2⟩]) from sl_of (gr_bel HGg.out hbo) (by rw [List.length_append,exArgs_len];show k+1<=1000;omega))
       rw [hwo]
       clear hwo hbo
       have HQX:=hid (show QI (⟨kd,q3,n1,n2,exArgs i k,(0,0)⟩:In) from qi_of (by omega) (by omega) HNL.1 HNL.2 (fun a ha=>by have h:=exArgs_ok i k a ha;exact ⟨by rw [h.1];exact Nat.zero_le _,h.2⟩) (by rw [exArgs_len];omega))
       have hya:∀ a ∈ exArgs i k++[(⟨n1,b2⟩:Ag)],a.nm.length<=10/\a.num<18446744073709551616:=fun a ha=>by
        rcases List.mem_append.1 ha with ha | ha
        ·have h:=exArgs_ok i k a ha;exact ⟨by rw [h.1];exact Nat.zero_le _,h.2⟩
        ·rw [List.mem_singleton] at ha;subst ha;exact ⟨HNL.1,by show b2<_;omega⟩
       have hyl:(exArgs i k++[(⟨n1,b2⟩:Ag)]).length<=10:=by rw [List.length_append,exArgs_len];show k+1<=10;omega
       have HQY:=hid (show QI (⟨kd,q3,n1,n2,exArgs i k++[⟨n1,b2⟩],(0,0)⟩:In) from qi_of (by omega) (by omega) HNL.1 HNL.2 hya hyl)
       have HQZ:=hid (show QI (⟨1,q24,[100],[],exArgs i k++[⟨n1,b2⟩],(0,0)⟩:In) from qi_of (by omega) (by omega) (by decide) (by decide) hya hyl)
       clear hya hyl
       have HPX:=hid (show ∀ W,Below wo.heap.size wo W->Calls Tryz.prog 19 #[.agg #[.int .u8 (kd:Int),.int .u8 (q3:Int),.string ⟨n1.toArray⟩,.string ⟨n2.toArray⟩,(.slice p0 k c0),.int .i64 0,.int .i64 0]] W (fun e w'=>e=.returned (.bool true)/\Below W.heap.size W w') from fun W hW=>printInstrs_law (⟨kd,q3,n1,n2,exArgs i k,(0,0)⟩:In) _ W (HSx.below hW) HQX.out (HE.below (HB2.trans ((HBo.trans (hW.mono HBo.size)).mono HB2.size))))
       have HPY:=hid (show ∀ W,Below wo.heap.size wo W->Calls Tryz.prog 19 #[.agg #[.int .u8 (kd:Int),.int .u8 (q3:Int),.string ⟨n1.toArray⟩,.string ⟨n2.toArray⟩,(.slice p2 (k+1) c2),.int .i64 0,.int .i64 0]] W (fun e w'=>e=.returned (.bool true)/\Below W.heap.size W w') from fun W hW=>printInstrs_law (⟨kd,q3,n1,n2,exArgs i k++[⟨n1,b2⟩],(0,0)⟩:In) _ W (HSy.below hW) HQY.out (HE.below (HB2.trans ((HBo.trans (hW.mono HBo.size)).mono HB2.size))))
       have HPZ:=hid (show ∀ W,Below wo.heap.size wo W->Calls Tryz.prog 19 #[.agg #[.int .u8 1,.int .u8 (q24:Int),.string ⟨#[100]⟩,.string ⟨#[]⟩,(.slice p2 (k+1) c2),.int .i64 0,.int .i64 0]] W (fun e w'=>e=.returned (.bool true)/\Below W.heap.size W w') from fun W hW=>printInstrs_law (⟨1,q24,[100],[],exArgs i k++[⟨n1,b2⟩],(0,0)⟩:In) _ W (HSy.below hW) HQZ.out (HE.below (HB2.trans ((HBo.trans (hW.mono HBo.size)).mono HB2.size))))
       obtain ⟨mb,hmb⟩:∃ b,((b2:Int) == 0)=b:=⟨_,rfl⟩
       have HON:=hid (show ∀ W,Below wo.heap.size wo W->Calls Tryz.prog 20 #[.agg #[.int .u8 (kd:Int),.int .u8 (q3:Int),.string ⟨n1.toArray⟩,.string ⟨n2.toArray⟩,(.slice p0 k c0),.int .i64 0,.int .i64 0],.bool mb] W (fun e w'=>∃ a b c d,e=.returned (.agg #[.int .i64 4,a,b,c,d])/\PgV (·<w'.heap.size) w' a b c d (oneP (⟨kd,q3,n1,n2,exArgs i k,(0,0)⟩:In) mb)/\Below W.heap.size W w') from fun W hW=>one_any (⟨kd,q3,n1,n2,exArgs i k,(0,0)⟩:In) _ W mb (HSx.below hW))
       have HPT:=hid (show ∀ (W:World) (a b c d:Value),Below wo.heap.size wo W->PgV (·<W.heap.size) W a b c d (oneP (⟨kd,q3,n1,n2,exArgs i k,(0,0)⟩:In) mb)->Calls Tryz.prog 3 #[.agg #[.int .i64 4,a,b,c,d]] W (fun e w'=>e=.returned (.bool true)/\Below W.heap.size W w') from fun W a b c d hW hp=>printTexts_any (oneP (⟨kd,q3,n1,n2,exArgs i k,(0,0)⟩:In) mb) a b c d W hp (one_q HQX.out mb) (HE.below (HB2.trans ((HBo.trans (hW.mono HBo.size)).mono HB2.size))))
       have HBC:=hid (Below.refl wo.heap.size wo)
       have a0:=(HXo.bel HBC.out).at 0 rfl
       have a1:=(HXo.bel HBC.out).at 1 rfl
       have a2:=(HXo.bel HBC.out).at 2 rfl
       have a3:=(HXo.bel HBC.out).at 3 rfl
       have a4:=(HXo.bel HBC.out).at 4 rfl
       have a5:=(HXo.bel HBC.out).at 5 rfl
       have a6:=(HXo.bel HBC.out).at 6 rfl
       go_wp2_with (first
        | (go_at_call 19;(with_reducible refine (HPX.out _ HBC.out).mono ?_);rintro e wx ⟨rfl,hb⟩;clear a0 a1 a2 a3 a4 a5 a6;have HBC:=hid (HBC.out.trans (hb.mono HBC.out.size));clear hb;have a0:=(HYo.out.bel HBC.out).at 0 rfl;have a1:=(HYo.out.bel HBC.out).at 1 rfl;have a2:=(HYo.out.bel HBC.out).at 2 rfl;have a3:=(HYo.out.bel HBC.out).at 3 rfl;have a4:=(HYo.out.bel HBC.out).at 4 rfl;have a5:=(HYo.out.bel HBC.out).at 5 rfl;have a6:=(HYo.out.bel HBC.out).at 6 rfl;)
        | (go_at_call 19;(with_reducible refine (HPY.out _ HBC.out).mono ?_);rintro e wy ⟨rfl,hb⟩;clear a0 a1 a2 a3 a4 a5 a6;have HBC:=hid (HBC.out.trans (hb.mono HBC.out.size));clear hb;have a0:=(HZo.out.bel HBC.out).at 0 rfl;have a1:=(HZo.out.bel HBC.out).at 1 rfl;have a2:=(HZo.out.bel HBC.out).at 2 rfl;have a3:=(HZo.out.bel HBC.out).at 3 rfl;have a4:=(HZo.out.bel HBC.out).at 4 rfl;have a5:=(HZo.out.bel HBC.out).at 5 rfl;have a6:=(HZo.out.bel HBC.out).at 6 rfl;)
        | (go_at_call 19;(with_reducible refine (HPZ.out _ HBC.out).mono ?_);rintro e wz ⟨rfl,hb⟩;clear a0 a1 a2 a3 a4 a5 a6;have HBC:=hid (HBC.out.trans (hb.mono HBC.out.size));clear hb;have a0:=(HXo.out.bel HBC.out).at 0 rfl;have a1:=(HXo.out.bel HBC.out).at 1 rfl;have a2:=(HXo.out.bel HBC.out).at 2 rfl;have a3:=(HXo.out.bel HBC.out).at 3 rfl;have a4:=(HXo.out.bel HBC.out).at 4 rfl;have a5:=(HXo.out.bel HBC.out).at 5 rfl;have a6:=(HXo.out.bel HBC.out).at 6 rfl;)
        | (go_at_call 20;(with_reducible refine (HON.out _ HBC.out).mono ?_);rintro e w1 ⟨va,vb,vc,vd,rfl,hp,hb⟩;clear a0 a1 a2 a3 a4 a5 a6;have HBC:=hid (HBC.out.trans (hb.mono HBC.out.size));have HPV:=hid hp;clear hb hp)
        | (go_at_call 3;(with_reducible refine (HPT.out _ _ _ _ _ HBC.out HPV.out).mono ?_);rintro e wt ⟨rfl,hb⟩;have HBC:=hid (HBC.out.trans (hb.mono HBC.out.size));clear hb))
       go_roundw
       case rel=>exact ⟨i+1,by omega,by go_num,HBo.trans (HBC.mono HBo.size)⟩
       case measure=>simp [intOf];omega
    ·obtain rfl:i=108:=by omega
     have t2:decide (((108:Nat):Int)<108)=false:=by decide
     have HBi:=hid hbi
     clear hbi hli hi
     go_wp2_with fail
     go_roundw
     case rel=>exact ⟨kd+1,by omega,by go_num,HBi.out⟩
     case measure=>simp [intOf];omega
  ·obtain rfl:kd=14:=by omega
   rw [show ((14:Nat):Int)=(14:Int) from rfl]
   have t1:decide ((14:Int)<14)=false:=by decide
   have HBr:=hid (HB2.trans (hbr.mono HB2.size))
   clear hbr hlt hkd
   go_upto_region 20 with fail
   obtain ⟨wp,hwp⟩:∃ X,wr.alloc (.cells #[.int .i64 64,.slice none 0 0,.slice none 0 0,.slice none 0 0,.slice none 0 0] 27)=X:=⟨_,rfl⟩
   have HBp:=hid (show Below w.heap.size w wp from by rw [<- hwp];exact HBr.alloc HBr.size _)
   have HYp:=hid (show BxL 27 wr.heap.size [.int .i64 64,.slice none 0 0,.slice none 0 0,.slice none 0 0,.slice none 0 0] wp from by rw [<- hwp];exact BxL.new _ _ _)
   have HWP:=hid HBr.size
   rw [hwp]
   clear hwp
   generalize wr.heap.size=bp at *
   go_wp2_with fail
   go_loopw [10] (fun iv wl=>∃ (i:Nat) (mv:Value),i<=1024/\iv=.int .i64 (i:Int)/\BxL 27 bp [.int .i64 64,.slice none 0 0,.slice none 0 0,.slice none 0 0,mv] wl/\GR kIn (fun j=>bp<j/\j<wl.heap.size/\mv.ownBlock ≠ some j) (bp+1) 41 wl mv ((List.range i).map bigI)/\Below w.heap.size w wl) (fun iv _=>1024 - (intOf iv).toNat)
   case atStart=>exact ⟨0,_,Nat.zero_le _,rfl,HYp.out,GR.nil _ _ _ _ _,HBp.out⟩
   case round =>
    obtain ⟨i,mv,hi,rfl,hy,hg,hb⟩:=hrel
    obtain ⟨wl,rfl⟩:∃ w:World,w=wr:=⟨_,rfl⟩
    obtain ⟨p0,c0,rfl⟩:=hg.slc
    have hln:((List.range i).map bigI).length=i:=by rw [List.length_map,List.length_range]
    rw [hln] at hy hg
    have HGl:=hid hg;have HYl:=hid hy;have HBl:=hid hb;have HLN:=hid hln
    clear hg hy hb hln
    have c4:=HYl.at 4 rfl
    by_cases hlt:i<1024
    ·have t3:decide ((i:Int)<1024)=true:=decide_eq_true (by omega)
     obtain ⟨N,hN⟩:∃ N:Int,9223372036854775808+(i:Int)=N:=⟨_,rfl⟩
     have u1:IntKind.u64.wrap (i:Int)=(i:Int):=IntWalk.u64_in _ (by omega)
     have u2:IntKind.u64.wrap (9223372036854775808+(i:Int))=N:=by rw [hN];exact IntWalk.u64_in _ (by omega)
     have HN:=hid (show ((9223372036854775808+i:Nat):Int)=N from by rw [<- hN];omega)
     clear hN
     go_upto_region 23 with fail
     obtain ⟨wq,hwq⟩:∃ X,wl.alloc (.cells #[.string ⟨#[]⟩,.int .u64 18446744073709551615,.string ⟨#[]⟩,.int .u64 N] 43)=X:=⟨_,rfl⟩
     have hbq:Below wl.heap.size wl wq:=by rw [<- hwq];exact bA
     have HZq:=hid (show BxL 43 wl.heap.size ([.string ⟨#[]⟩,.int .u64 18446744073709551615]++[.string ⟨#[]⟩,.int .u64 N]) wq from by rw [<- hwq];exact BxL.new 43 wl ([.string ⟨#[]⟩,.int .u64 18446744073709551615]++[.string ⟨#[]⟩,.int .u64 N]))
     obtain ⟨wi,hwi⟩:∃ X,wq.alloc (.cells #[.int .u8 1,.int .u8 4,.string ⟨#[97,95,108,111,110,103,95,110,97,109,101,95,111,102,95,97,95,118,97,114,105,97,98,108,101]⟩,.string ⟨#[]⟩,.slice (some ⟨wl.heap.size,0,none⟩) 2 2,.int .i64 0,.int .i64 0] 41)=X:=⟨_,rfl⟩
     have hbi:Below wq.heap.size wq wi:=by rw [<- hwi];exact bA
     have HZi:=hid (show BxL 41 wq.heap.size [.int .u8 1,.int .u8 4,.string ⟨#[97,95,108,111,110,103,95,110,97,109,101,95,111,102,95,97,95,118,97,114,105,97,98,108,101]⟩,.string ⟨#[]⟩,.slice (some ⟨wl.heap.size,0,none⟩) 2 2,.int .i64 0,.int .i64 0] wi from by rw [<- hwi];exact BxL.new _ _ _)
     have HBi:=hid (HBl.trans ((hbq.trans (hbi.mono hbq.size)).mono HBl.size))
     have HYi:=hid ((HYl.bel hbq).bel hbi)
     have HZ2:=hid (HZq.bel hbi)
     have HGi:=hid (show GR kIn (fun j=>bp<j/\j<wi.heap.size/\Value.ownBlock (.slice p0 i c0) ≠ some j) (bp+1) 41 wi (.slice p0 i c0) ((List.range i).map bigI) from HGl.keep (fun j hj=>⟨⟨hj.1,Nat.lt_of_lt_of_le hj.2.1 (Nat.le_trans hbq.size hbi.size),hj.2.2⟩,(hbi.block j (Nat.lt_of_lt_of_le hj.2.1 hbq.size)).trans (hbq.block j hj.2.1)⟩) (fun j hj=>by have:=(HGl.lt j hj).2;exact (hbi.block j (by have:=hbq.size;omega)).trans (hbq.block j this)))
     have HLT:=hid (show wl.heap.size<wi.heap.size/\bp<wl.heap.size from ⟨by have:=hbi.size;have:=HZq.lt;omega,HYl.lt⟩)
     have HOL:=hid (show Value.ownBlock (.slice p0 i c0) ≠ some wl.heap.size from fun e=>by have:=(HGl.lt _ e).2;omega)
     have HKI:=hid (show kIn.E (fun j=>bp<j/\j<wi.heap.size/\Value.ownBlock (.slice p0 i c0) ≠ some j) wi [.int .u8 1,.int .u8 4,.string ⟨#[97,95,108,111,110,103,95,110,97,109,101,95,111,102,95,97,95,118,97,114,105,97,98,108,101]⟩,.string ⟨#[]⟩,.slice (some ⟨wl.heap.size,0,none⟩) 2 2,.int .i64 0,.int .i64 0] (bigI i) from ⟨_,rfl,SlG.box2J HZ2.out rfl (by show [Value.string ⟨#[]⟩,.int .u64 N]=[_,.int .u64 ((9223372036854775808+i:Nat):Int)];rw [HN.out]) ⟨HLT.2,HLT.1,HOL.out⟩⟩)
     clear hbq hbi
     go_wp2_with (first
      | (rw [hwq];clear hwq)
      | (rw [hwi];clear hwi)
      | (at_builtin;refine wpList_pushJ (K:=kIn) (x:=bigI i) (B:=bp+1) (R:=fun j=>bp<j/\j<wi.heap.size/\Value.ownBlock (.slice p0 i c0) ≠ some j) (cs:=[.int .u8 1,.int .u8 4,.string ⟨#[97,95,108,111,110,103,95,110,97,109,101,95,111,102,95,97,95,118,97,114,105,97,98,108,101]⟩,.string ⟨#[]⟩,.slice (some ⟨wl.heap.size,0,none⟩) 2 2,.int .i64 0,.int .i64 0]) (te:=41) rfl (.tmp 113) (.tmp 121) 25 rfl Tryz.underlying25 _ 80 info_inG rfl HGi.out (fun j hj=>⟨hj.2.1,hj.2.2⟩) HKI.out HZi.out (by rfl) (by rfl) (by rw [HLN.out];omega) (by rw [HLN.out];unfold maxLen;omega) (by have:=HLT.out;omega) ?_;intro v5 w5 hg5 hgr5 hm5;obtain ⟨p5,c5,rfl⟩:=hg5.slc;have hnf:((List.range i).map bigI++[bigI i]).length=i+1:=(by rw [List.length_append,HLN.out];rfl);rw [hnf] at hg5 hm5;rw [hnf];clear hnf;have HG5:=hid hg5;have HM5:=hid hm5;have HR5:=hid hgr5;have HY5:=hid (HYi.out.keep (hgr5.block bp HYi.out.lt fun e=>by have:=(HGi.out.lt bp e.symm).1;omega));have c5':=HY5.out.at 4 rfl;have f5':=HY5.out.fr 4;clear hg5 hgr5 hm5))
     obtain ⟨w6,hw6⟩:∃ X,w5.setCell ⟨bp,4,none⟩ (.slice p5 (i+1) c5)=X:=⟨_,rfl⟩
     have HY6:=hid (show BxL 27 bp [.int .i64 64,.slice none 0 0,.slice none 0 0,.slice none 0 0,.slice p5 (i+1) c5] w6 from by rw [<- hw6];exact HY5.set 4 _)
     have HB6:=hid (show Below w.heap.size w w6 from by rw [<- hw6];exact (HBi.trans ⟨HR5.os,HR5.tape,HR5.output,HR5.size,fun j hj=>HR5.block j (Nat.lt_of_lt_of_le hj HBi.size) fun e=>by have:=(HGi.lt j e.symm).1;have:=HWP.out;omega⟩).setCell (p:=⟨bp,4,none⟩) HWP.out _)
     have HG6:=hid (show GR kIn (fun j=>bp<j/\j<w6.heap.size/\Value.ownBlock (.slice p5 (i+1) c5) ≠ some j) (bp+1) 41 w6 (.slice p5 (i+1) c5) ((List.range (i+1)).map bigI) from by
      rw [List.range_succ,List.map_append,<- hw6]
      refine HG5.keep (fun j hj=>⟨⟨hj.1,?_,?_⟩,heap_ot (by omega) _⟩) (fun j hj=>heap_ot (by have:=(HG5.lt j hj).1;omega) _)
      ·rw [World.size_setCell];exact Nat.lt_of_lt_of_le hj.2.1 HR5.size
      ·rcases HM5.out with e | ⟨j',e,hj'⟩
       ·rw [e];exact hj.2.2
       ·rw [e];intro h;injection h with h;omega)
     rw [hw6]
     clear hw6 c5' f5'
     go_roundw
     case rel=>exact ⟨i+1,.slice p5 (i+1) c5,by omega,by go_num,HY6.out,HG6.out,HB6.out⟩
     case measure=>simp [intOf];omega
    ·obtain rfl:i=1024:=by omega
     have t3:decide (((1024:Nat):Int)<1024)=false:=by decide
     have HPG:=hid (show PgV (·<wl.heap.size) wl (.slice none 0 0) (.slice none 0 0) (.slice none 0 0) (.slice p0 1024 c0) (bigP 1024) from ⟨SlG.nil,SlG.nil,SlG.nil,(HGl.sl (by rw [HLN.out];decide)).weaken fun j hj=>hj.elim (fun h=>h.2.1) (fun e=>(HGl.lt j e).2)⟩)
     have HPP:=hid (show Calls Tryz.prog 14 #[.agg #[.int .i64 64,.slice none 0 0,.slice none 0 0,.slice none 0 0,.slice p0 1024 c0]] wl (fun e w'=>e=.returned (.tuple #[.string ⟨#[]⟩,.int .i64 5])/\Below wl.heap.size wl w') from by
      have h:=print_any (bigP 1024) _ _ _ _ wl (HE.below HBl.out) HPG.out (big_ok _) (big_num 1024 (by decide))
      rw [big_print] at h
      exact h)
     have HRP:=hid (show ∀ W,Below wl.heap.size wl W->Calls Tryz.prog 15 #[.agg #[.int .i64 64,.slice none 0 0,.slice none 0 0,.slice none 0 0,.slice p0 1024 c0]] W (fun e w'=>e=.returned (.tuple #[.string ⟨#[]⟩,.int .i64 5])/\Below W.heap.size W w') from fun W hW=>by
      have h:=rprint_any (bigP 1024) _ _ _ _ W (HPG.below hW) (big_rlen _ (by decide)) (big_num 1024 (by decide))
      rw [big_print] at h
      exact h)
     have n0:=HYl.at 0 rfl;have n1:=HYl.at 1 rfl;have n2:=HYl.at 2 rfl;have n3:=HYl.at 3 rfl
     clear hlt hi
     go_wp2_with (first
      | (go_at_call 14;(with_reducible refine HPP.out.mono ?_);rintro e wx ⟨rfl,hb⟩;clear n0 n1 n2 n3 c4;have HBX:=hid hb;have n0:=(HYl.out.bel hb).at 0 rfl;have n1:=(HYl.out.bel hb).at 1 rfl;have n2:=(HYl.out.bel hb).at 2 rfl;have n3:=(HYl.out.bel hb).at 3 rfl;have c4:=(HYl.out.bel hb).at 4 rfl;clear hb)
      | (go_at_call 15;(with_reducible refine (HRP.out _ HBX.out).mono ?_);rintro e wy ⟨rfl,hb⟩;clear n0 n1 n2 n3 c4;have HBY:=hid (HBl.out.trans ((HBX.out.trans (hb.mono HBX.out.size)).mono HBl.out.size));clear hb)
      | (go_at_call 17;(with_reducible refine (awake24_any _ (HE.out.below HBY.out)).mono ?_);rintro e wz ⟨rfl,hb⟩;have HBZ:=hid (HBY.out.trans (hb.mono HBY.out.size));clear hb))
     go_ret
     exact ⟨rfl,HBZ.out⟩
end Go.Proofs.YtoofbgoeipijcaaGreatDoor
