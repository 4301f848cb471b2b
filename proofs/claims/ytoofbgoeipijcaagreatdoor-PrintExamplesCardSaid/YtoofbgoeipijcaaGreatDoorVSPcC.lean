/-
 A part.
-/
import Derived.Test.YtoofbgoeipijcaaGreatDoorVB29
namespace Go.Proofs.YtoofbgoeipijcaaGreatDoor
set_option linter.all false
open Go.RowKit Go.Shelf
attribute [local go_sem] Oper.semAt_some
def fewF (f:Fu):Fu:={ f with params:=f.params.take 34,code:=fewL f.code }
def fewP (p:Pg):Pg:={ p with chans:=p.chans.take 34,arrays:=p.arrays.take 34,funcs:=(p.funcs.take 5).map fewF,main:=fewL p.main }
structure ArgsOk (p:Pg):Prop where
 funcs:∀ f ∈ p.funcs,∀ x ∈ f.code,x.args.length<=5864062014805
 main:∀ x ∈ p.main,x.args.length<=5864062014805
theorem fewL_len (l:List In):(fewL l).length<=30:=by unfold fewL;rw [List.length_map,List.length_take];omega
set_option maxRecDepth 100000 in
set_option maxHeartbeats 8000000 in
theorem pgfew_any (p:Pg) (a b c d:Value) (w:World) (hp:PgV (·<w.heap.size) w a b c d p) (ha:ArgsOk p) :
  Calls Tryz.prog 12 #[.agg #[.int .i64 p.width,a,b,c,d]] w fun e w'=>∃ a' b' c' d',e=.returned (.agg #[.int .i64 p.width,a',b',c',d'])/\PgV (fun k=>w.heap.size<=k/\k<w'.heap.size) w' a' b' c' d' (fewP p)/\Below w.heap.size w w':=by
 obtain ⟨pa,ca,hva⟩:=hp.1.slc
 obtain ⟨pb,cb,hvb⟩:=hp.2.1.slc
 obtain ⟨pc,cc,hvc⟩:=hp.2.2.1.slc
 obtain ⟨pd,cd,hvd⟩:=hp.2.2.2.slc
 subst hva hvb hvc hvd
 obtain ⟨m1,hv1⟩:∃ q,min p.chans.length 34=q:=⟨_,rfl⟩
 have hi1:m1<=p.chans.length:=by omega
 have hn1:min (p.chans.length:Int) 34=(m1:Int):=by omega
 have hc1:m1<=ca:=by obtain ⟨_,_,_,_,e,h2,_⟩:=hp.1;cases e;omega
 obtain ⟨T1,hT1⟩:∃ T,p.chans.take m1=T:=⟨_,rfl⟩
 obtain ⟨m2,hv2⟩:∃ q,min p.arrays.length 34=q:=⟨_,rfl⟩
 have hi2:m2<=p.arrays.length:=by omega
 have hn2:min (p.arrays.length:Int) 34=(m2:Int):=by omega
 have hc2:m2<=cb:=by obtain ⟨_,_,_,_,e,h2,_⟩:=hp.2.1;cases e;omega
 obtain ⟨T2,hT2⟩:∃ T,p.arrays.take m2=T:=⟨_,rfl⟩
 have HT1:=hid (show SlG kStr (·<w.heap.size) w (.slice pa m1 ca) T1 from hT1 ▸ hp.1.cut m1 hi1)
 have HT2:=hid (show SlG kAr (·<w.heap.size) w (.slice pb m2 cb) T2 from hT2 ▸ hp.2.1.cut m2 hi2)
 have HL1:=hid (show T1.length=m1 from by rw [<- hT1,List.length_take];omega)
 have HL2:=hid (show T2.length=m2 from by rw [<- hT2,List.length_take];omega)
 have HM1:=hid (show m1<=34 from by omega)
 have HM2:=hid (show m2<=34 from by omega)
 have HE1:=hid (show p.chans.take 34=T1 from by rw [<- hT1,<- hv1,take_min])
 have HE2:=hid (show p.arrays.take 34=T2 from by rw [<- hT2,<- hv2,take_min])
 have HP:=hid hp;have HA:=hid ha
 clear hT1 hT2 hv1 hv2 hp ha
 go_enter Tryz.func12,Tryz.ntmps12
 go_upto_region 1 with fail
 obtain ⟨w2,hw2⟩:∃ W,(w.alloc (.cells #[.int .i64 p.width,.slice pa p.chans.length ca,.slice pb p.arrays.length cb,.slice pc p.funcs.length cc,.slice pd p.main.length cd] 27)).alloc (.cells #[.int .i64 0,.slice none 0 0,.slice none 0 0,.slice none 0 0,.slice none 0 0] 27)=W:=⟨_,rfl⟩
 have HXD:=hid (show BxL 27 w.heap.size [.int .i64 p.width,.slice pa p.chans.length ca,.slice pb p.arrays.length cb,.slice pc p.funcs.length cc,.slice pd p.main.length cd] w2.drew from by rw [<- hw2];exact (BxL.new _ _ _).al _)
 have HYD:=hid (show BxL 27 (w.heap.size+1) [.int .i64 0,.slice none 0 0,.slice none 0 0,.slice none 0 0,.slice none 0 0] w2.drew from by rw [<- hw2];have h9:=BxL.new 27 (w.alloc (.cells #[.int .i64 p.width,.slice pa p.chans.length ca,.slice pb p.arrays.length cb,.slice pc p.funcs.length cc,.slice pd p.main.length cd] 27)) [.int .i64 0,.slice none 0 0,.slice none 0 0,.slice none 0 0,.slice none 0 0];rw [sA] at h9;exact h9)
 have HBD:=hid (show Below w.heap.size w w2.drew from by rw [<- hw2];exact ((bA).alloc (by rw [sA];omega) _).trans (Below.refl _ _).drew)
 have HZD:=hid (show w2.drew.heap.size=w.heap.size+2 from by rw [<- hw2];show ((w.alloc _).alloc _).heap.size=_;rw [sA,sA])
 rw [hw2]
 clear hw2
 have hS:(fun W=>W.cell? ⟨w.heap.size,1,none⟩=some (.slice pa p.chans.length ca)/\W.cell? ⟨w.heap.size,2,none⟩=some (.slice pb p.arrays.length cb)) w2.drew:=⟨HXD.at 1 rfl,HXD.at 2 rfl⟩
 have hFa:=fT
 refine rgN (fun W=>W.cell? ⟨w.heap.size,1,none⟩=some (.slice pa p.chans.length ca)/\W.cell? ⟨w.heap.size,2,none⟩=some (.slice pb p.arrays.length cb)) 17 (by kernel_rfl) ?_
 simp only [zP,Nat.reduceAdd]
 refine wpHJ_pure (v:=?v0) 0 hFa rfl (by kernel_rfl) nE (Or.inl ⟨by rfl,?y0⟩) (.inr hS) ?r0
 case y0=>(intro w' _;go_simp;try rfl)
 simp only [aP]
 refine wpHJ_take (v:=?v1) 1 hFa rfl (by kernel_rfl) nE (Or.inl ⟨by rfl,?y1⟩) hS ?r1
 case y1=>(rintro w' ⟨s0,s1⟩;go_simp;try rfl)
 simp only [aP]
 refine wpHJ_pure (v:=?v6) 2 hFa rfl (by kernel_rfl) nE (Or.inl ⟨by rfl,?y6⟩) (.inr hS) ?r6
 case y6=>(intro w' _;go_simp;try rfl)
 simp only [aP]
 refine wpHJ_take (v:=?v7) 3 hFa rfl (by kernel_rfl) nE (Or.inl ⟨by rfl,?y7⟩) hS ?r7
 case y7=>(rintro w' ⟨s0,s1⟩;go_simp;try rfl)
 simp only [aP]
 iterate 3 (refine npW (v:=?_) 20 (.inr hS) ?_ ?_;rotate_left;(focus intro w' _;go_simp;try rfl);simp only [aP])
 refine wpHJ_pure (v:=?v8) 8 hFa rfl (by kernel_rfl) nE (Or.inl ⟨by rfl,?y8⟩) (.inr hS) ?r8
 case y8=>(intro w' _;go_simp;try rfl)
 simp only [aP]
 refine wpHJ_take (v:=?v9) 9 hFa rfl (by kernel_rfl) nE (Or.inl ⟨by rfl,?y9⟩) hS ?r9
 case y9=>(rintro w' ⟨s0,s1⟩;go_simp;try rfl)
 simp only [aP]
 refine wpHJ_pure (v:=?v2) 10 hFa rfl (by kernel_rfl) nE (Or.inl ⟨by rfl,?y2⟩) (.inr hS) ?r2
 case y2=>(intro w' _;go_simp;try rfl)
 simp only [aP]
 refine wpHJ_take (v:=?v3) 11 hFa rfl (by kernel_rfl) nE (Or.inl ⟨by rfl,?y3⟩) hS ?r3
 case y3=>(rintro w' ⟨s0,s1⟩;go_simp;try rfl)
 simp only [aP]
 iterate 3 (refine npW (v:=?_) 21 (.inr hS) ?_ ?_;rotate_left;(focus intro w' _;go_simp;try rfl);simp only [aP])
 refine oy 7 fun K hK=>?_
 go_simp
 (refine (callsIn_wide.2 (copystrs_any T1 _ _ (HT1.below HBD.out) (by rw [HL1.out];have:=HM1.out;omega))).mono ?_)
 rintro e w3 ⟨v1,rfl,hg,hb⟩
 obtain ⟨p1,c1,hv⟩:=hg.slc
 rw [HL1.out] at hv
 subst hv
 have HG1:=hid hg
 have HB3:=hid (HBD.trans (hb.mono HBD.size))
 have HZ23:=hid hb.size
 have HX3:=hid (HXD.bel hb)
 have HY3:=hid (HYD.bel hb)
 clear hg hb
 refine hK _ _ (.inr (.inr ⟨HX3.at 1 rfl,HX3.at 2 rfl⟩)) ?_
 clear hK K
 refine wpHJ_pure (v:=?v4) 16 hFa rfl (by kernel_rfl) nE (Or.inl ⟨by rfl,?y4⟩) (.inr ⟨HX3.at 1 rfl,HX3.at 2 rfl⟩) ?r4
 case y4=>(intro w' _;go_simp;try rfl)
 simp only [aP]
 refine oy 15 fun K hK=>?_
 go_simp
 (refine (callsIn_wide.2 (copyarrs_any T2 _ _ (HT2.below HB3.out) (by rw [HL2.out];have:=HM2.out;omega))).mono ?_)
 rintro e w4 ⟨v2,rfl,hg,hb⟩
 obtain ⟨p2,c2,hv⟩:=hg.slc
 rw [HL2.out] at hv
 subst hv
 have HG2:=hid hg
 have HK1:=hid (HG1.keep hb)
 have HB4:=hid (HB3.trans (hb.mono HB3.size))
 have HX4:=hid (HX3.bel hb)
 have HY4:=hid (HY3.bel hb)
 have HZ34:=hid hb.size
 clear hg hb
 have z1:w4.cell? ⟨w.heap.size,1,none⟩=some (.slice pa p.chans.length ca):=HX4.at 1 rfl
 have z2:∀ v,(w4.setCell ⟨w.heap.size,1,none⟩ v).cell? ⟨w.heap.size,2,none⟩=some (.slice pb p.arrays.length cb):=fun v=>(HX4.set 1 v).at 2 rfl
 have z3:w4.frozen? ⟨w.heap.size,1,none⟩=false:=HX4.fr 1
 have z4:∀ v,(w4.setCell ⟨w.heap.size,1,none⟩ v).frozen? ⟨w.heap.size,2,none⟩=false:=fun v=>(HX4.set 1 v).fr 2
 refine hK _ _ (.inr (.inr ⟨HX4.at 1 rfl,HX4.at 2 rfl⟩)) ?_
 clear hK K
 refine oy 17 fun K hK=>?_
 go_simp
 refine hK _ _ (.inl rfl) ?_
 clear hK K
 refine wpHJ_pure (v:=?v5) 18 hFa rfl (by kernel_rfl) nE (Or.inl ⟨by rfl,?y5⟩) (.inl rfl) ?r5
 case y5=>(intro w' _;go_simp;try rfl)
 simp only [aP]
 refine oy 19 fun K hK=>?_
 go_simp
 refine hK _ _ (.inr (.inl rfl)) (dN ?_)
 clear hK K
 simp only [onlyN,Exit.then]
 clear hFa
 clear hS z1 z2 z3 z4 hi1 hn1 hc1 hi2 hn2 hc2
 have hz4:w.heap.size+2<=w4.heap.size:=by have h1:=HZD.out;have h2:=HZ34.out;have h3:=HB3.size;have h4:=HY4.lt;omega
 obtain ⟨w5,hw5⟩:∃ W,(w4.setCell ⟨w.heap.size,1,none⟩ (.slice p1 m1 c1)).setCell ⟨w.heap.size,2,none⟩ (.slice p2 m2 c2)=W:=⟨_,rfl⟩
 have hk5:∀ k,k ≠ w.heap.size->w5.heap[k]?=w4.heap[k]?:=fun k h=>by rw [<- hw5,heap_ot h,heap_ot h]
 have hs5:w5.heap.size=w4.heap.size:=by rw [<- hw5,World.size_setCell,World.size_setCell]
 have HX5:=hid (show BxL 27 w.heap.size [.int .i64 p.width,.slice p1 m1 c1,.slice p2 m2 c2,.slice pc p.funcs.length cc,.slice pd p.main.length cd] w5 from by rw [<- hw5];exact (HX4.set 1 _).set 2 _)
 have HY5:=hid (show BxL 27 (w.heap.size+1) [.int .i64 0,.slice none 0 0,.slice none 0 0,.slice none 0 0,.slice none 0 0] w5 from HY4.keep (hk5 _ (by omega)))
 have HB5:=hid (show Below w.heap.size w w5 from by rw [<- hw5];exact (HB4.setCell (p:=⟨w.heap.size,1,none⟩) lrf _).setCell (p:=⟨w.heap.size,2,none⟩) lrf _)
 have HG15:=hid (show GF kStr (w.heap.size+2) _ w5 (.slice p1 m1 c1) T1 from ((HK1.base (show w.heap.size+2<=_ from by have:=HZD.out;omega)).keepB (Nat.le_of_eq hs5.symm) fun k h1 h2=>hk5 k (by omega)))
 have HG25:=hid (show GF kAr (w.heap.size+2) _ w5 (.slice p2 m2 c2) T2 from ((HG2.base (show w.heap.size+2<=_ from by have h1:=HZD.out;have h2:=HB3.size;have h3:=HY3.lt;have h4:=HZ23.out;omega)).keepB (Nat.le_of_eq hs5.symm) fun k h1 h2=>hk5 k (by omega)))
 have HS25:=hid (show w.heap.size+2<=w5.heap.size from by omega)
 rw [hw5]
 clear hw5 hk5 hs5 hz4
 obtain ⟨M,hM⟩:∃ q,min p.funcs.length 5=q:=⟨_,rfl⟩
 have HM:=hid hM
 have HMF:=hid (show p.funcs.take M=p.funcs.take 5 from by rw [<- hM,take_min])
 clear hM
 have HC:=hid (show ∀ W,Below w5.heap.size w5 W->BxL 27 w.heap.size [.int .i64 p.width,.slice p1 m1 c1,.slice p2 m2 c2,.slice pc p.funcs.length cc,.slice pd p.main.length cd] W from fun W h=>HX5.bel h)
 go_wp2_with fail
 go_loopw [3,4] (fun ov iv wr=>∃ k:Nat,k<=M/\iv=.int .i64 (k:Int)/\GF kFu w5.heap.size 74 wr ov ((p.funcs.take k).map fewF)/\Below w5.heap.size w5 wr) (fun _ iv _=>M - (intOf iv).toNat)
 case atStart=>exact ⟨0,Nat.zero_le _,rfl,GF.nil _ _ _ _,Below.refl _ _⟩
 case round =>
  obtain ⟨k,hk,rfl,hg,hb⟩:=hrel
  have hML:M<=p.funcs.length/\M<=5:=by have:=HM.out;omega
  have n3:wr.cell? ⟨w.heap.size,3,none⟩=some (.slice pc p.funcs.length cc):=(HC.out wr hb).at 3 rfl
  obtain ⟨Q,hQ⟩:∃ Q,(p.funcs.take k).map fewF=Q:=⟨_,rfl⟩
  rw [hQ] at hg
  have HQ:=hid hQ
  have HQL:=hid (show Q.length=k from by rw [<- hQ,List.length_map,List.length_take];omega)
  clear hQ
  obtain ⟨po,co,hvo⟩:=hg.slc
  rw [HQL.out] at hvo
  subst hvo
  by_cases hlt:k<M
  ·have hk1:k<p.funcs.length:=by omega
   have hk2:(k:Int)<5:=by omega
   obtain ⟨b1,o1,rfl,hR,hcells⟩:=fu_at HP.2.2.1 (by omega:0<p.funcs.length)
   obtain ⟨pp,cp,pq,cq,hpar,hcode,q0,q1,q2,q3,q4⟩:=hcells k hk1
   have hbw:Below w.heap.size w wr:=HB5.trans (hb.mono HB5.size)
   have q0:=(hbw.cell (p:=⟨b1,o1+k*5,none⟩) hR).trans q0
   have q1:=(hbw.cell (p:=⟨b1,o1+k*5+1,none⟩) hR).trans q1
   have q2:=(hbw.cell (p:=⟨b1,o1+k*5+2,none⟩) hR).trans q2
   have q3:=(hbw.cell (p:=⟨b1,o1+k*5+3,none⟩) hR).trans q3
   have q4:=(hbw.cell (p:=⟨b1,o1+k*5+4,none⟩) hR).trans q4
   have HSN:=hid (show (p.funcs.take (k+1)).map fewF=Q++[fewF p.funcs[k]] from by rw [List.take_succ_eq_append_getElem hk1,List.map_append,HQ.out];rfl)
   have HXA:=hid (HA.funcs p.funcs[k] (List.getElem_mem hk1))
   have HPA:=hid (hpar.below hbw);have HCO:=hid (hcode.below hbw)
   have HLT:=hid hlt;have HB:=hid hb;have HG:=hid hg;have HBW:=hid hbw
   clear hb hg hbw hcells hR hpar hcode HQ
   generalize p.funcs[k]=x at *
   go_upto_region 7 with fail
   clear n3 q0 q1 q2 q3 q4
   obtain ⟨n,hn⟩:∃ n,wr.heap.size=n:=⟨_,rfl⟩
   obtain ⟨wo,hwo⟩:∃ W,wr.alloc (.cells #[.string ⟨x.nm.toArray⟩,.slice pp x.params.length cp,.slice pq x.code.length cq,.int .i64 x.pos.1,.int .i64 x.pos.2] 74)=W:=⟨_,rfl⟩
   have hbo:Below wr.heap.size wr wo.drew:=by rw [<- hwo];exact (bA).trans (Below.refl _ _).drew
   have HND:=hid (show BxL 74 n [.string ⟨x.nm.toArray⟩,.slice pp x.params.length cp,.slice pq x.code.length cq,.int .i64 x.pos.1,.int .i64 x.pos.2] wo.drew from by rw [<- hwo,<- hn];exact BxL.new _ _ _)
   have HNS:=hid (show wo.drew.heap.size=n+1 from by rw [<- hwo,<- hn];show (wr.alloc _).heap.size=_;rw [sA])
   have HBd:=hid (show Below w5.heap.size w5 wo.drew from HB.trans (hbo.mono HB.size))
   have HRD:=hid (show Below n wr wo.drew from by rw [<- hn];exact hbo)
   have HPD:=hid (HPA.below hbo);have HCD:=hid (HCO.below hbo)
   have HOL:=hid (show ∀ j,(Value.slice po k co).ownBlock=some j->j<n from fun j hj=>by rw [<- hn];exact (HG.lt j hj).2)
   have HRL:=hid (show wr.heap.size=n from hn)
   have HWN:=hid (show w5.heap.size<=n from by rw [<- hn];exact HB.size)
   rw [hwo,hn]
   clear hwo hbo hn
   obtain ⟨m3,hv3⟩:∃ q,min x.params.length 34=q:=⟨_,rfl⟩
   have hi3:m3<=x.params.length:=by omega
   have hn3:min (x.params.length:Int) 34=(m3:Int):=by omega
   have hc3:m3<=cp:=by obtain ⟨_,_,_,_,e,h2,_⟩:=HPD.out;cases e;omega
   obtain ⟨U1,hT3⟩:∃ T,x.params.take m3=T:=⟨_,rfl⟩
   have HU1:=hid (show SlG kStr (·<wo.drew.heap.size) wo.drew (.slice pp m3 cp) U1 from hT3 ▸ HPD.cut m3 hi3)
   have HUL:=hid (show U1.length=m3 from by rw [<- hT3,List.length_take];omega)
   have HUM:=hid (show m3<=34 from by omega)
   have HUE:=hid (show x.params.take 34=U1 from by rw [<- hT3,<- hv3,take_min])
   clear hT3 hv3 hlt hk1 hk2 hML
   have hS:(fun W=>W.cell? ⟨n,1,none⟩=some (.slice pp x.params.length cp)/\W.cell? ⟨n,2,none⟩=some (.slice pq x.code.length cq)) wo.drew:=⟨HND.at 1 rfl,HND.at 2 rfl⟩
   have hFa:=fT
   refine rgN (fun W=>W.cell? ⟨n,1,none⟩=some (.slice pp x.params.length cp)/\W.cell? ⟨n,2,none⟩=some (.slice pq x.code.length cq)) 12 (by kernel_rfl) ?_
   simp only [zP,Nat.reduceAdd]
   refine wpHJ_pure (v:=?va) 0 hFa rfl (by kernel_rfl) nE (Or.inl ⟨by rfl,?ya⟩) (.inr hS) ?ra
   case ya=>(intro w' _;go_simp;try rfl)
   simp only [aP]
   refine wpHJ_take (v:=?vb) 1 hFa rfl (by kernel_rfl) nE (Or.inl ⟨by rfl,?yb⟩) hS ?rb
   case yb=>(rintro w' ⟨s0,s1⟩;go_simp;try rfl)
   simp only [aP]
   refine wpHJ_pure (v:=?ve) 2 hFa rfl (by kernel_rfl) nE (Or.inl ⟨by rfl,?ye⟩) (.inr hS) ?re
   case ye=>(intro w' _;go_simp;try rfl)
   simp only [aP]
   refine wpHJ_take (v:=?vf) 3 hFa rfl (by kernel_rfl) nE (Or.inl ⟨by rfl,?yf⟩) hS ?rf
   case yf=>(rintro w' ⟨s0,s1⟩;go_simp;try rfl)
   simp only [aP]
   iterate 3 (refine npW (v:=?_) 15 (.inr hS) ?_ ?_;rotate_left;(focus intro w' _;go_simp;try rfl);simp only [aP])
   refine wpHJ_pure (v:=?vg) 8 hFa rfl (by kernel_rfl) nE (Or.inl ⟨by rfl,?yg⟩) (.inr hS) ?rg
   case yg=>(intro w' _;go_simp;try rfl)
   simp only [aP]
   refine wpHJ_take (v:=?vh) 9 hFa rfl (by kernel_rfl) nE (Or.inl ⟨by rfl,?yh⟩) hS ?rh
   case yh=>(rintro w' ⟨s0,s1⟩;go_simp;try rfl)
   simp only [aP]
   refine oy 7 fun K hK=>?_
   go_simp
   (refine (callsIn_wide.2 (copystrs_any U1 _ _ HU1.out (by rw [HUL.out];have:=HUM.out;omega))).mono ?_)
   rintro e wa ⟨u1,rfl,hg,hb⟩
   obtain ⟨q1,e1,hv⟩:=hg.slc
   rw [HUL.out] at hv
   subst hv
   have HGU:=hid hg
   have HBA:=hid (HBd.trans (hb.mono HBd.size))
   have HNA:=hid (HND.bel hb)
   have HUC:=hid (HCD.below hb)
   have HRA:=hid (HRD.trans (hb.mono (by have:=HNS.out;omega)))
   have HZA:=hid hb.size
   clear hg hb
   refine hK _ _ (.inr (.inr ⟨HNA.at 1 rfl,HNA.at 2 rfl⟩)) ?_
   clear hK K
   refine wpHJ_pure (v:=?vc) 11 hFa rfl (by kernel_rfl) nE (Or.inl ⟨by rfl,?yc⟩) (.inr ⟨HNA.at 1 rfl,HNA.at 2 rfl⟩) ?rc
   case yc=>(intro w' _;go_simp;try rfl)
   simp only [aP]
   refine oy 10 fun K hK=>?_
   go_simp
   (refine (callsIn_wide.2 (few_any x.code _ _ HUC.out HXA.out)).mono ?_)
   rintro e wb ⟨u2,rfl,hg,hb⟩
   obtain ⟨q2,e2,rfl⟩:=hg.slc
   have HGC:=hid hg
   have HKU:=hid (HGU.keep hb)
   have HBB:=hid (HBA.trans (hb.mono HBA.size))
   have HNB:=hid (HNA.bel hb)
   have HRB:=hid (HRA.trans (hb.mono (by have:=HNS.out;have:=HZA.out;omega)))
   have HZB:=hid hb.size
   clear hg hb
   obtain ⟨fl,hfl⟩:∃ k,(fewL x.code).length=k:=⟨_,rfl⟩
   rw [hfl]
   have HFL:=hid hfl
   clear hfl
   have z1:wb.cell? ⟨n,1,none⟩=some (.slice pp x.params.length cp):=HNB.at 1 rfl
   have z2:∀ v,(wb.setCell ⟨n,1,none⟩ v).cell? ⟨n,2,none⟩=some (.slice pq x.code.length cq):=fun v=>(HNB.set 1 v).at 2 rfl
   have z3:wb.frozen? ⟨n,1,none⟩=false:=HNB.fr 1
   have z4:∀ v,(wb.setCell ⟨n,1,none⟩ v).frozen? ⟨n,2,none⟩=false:=fun v=>(HNB.set 1 v).fr 2
   refine hK _ _ (.inr (.inr ⟨HNB.at 1 rfl,HNB.at 2 rfl⟩)) ?_
   clear hK K
   refine oy 12 fun K hK=>?_
   go_simp
   refine hK _ _ (.inl rfl) ?_
   clear hK K
   refine wpHJ_pure (v:=?vd) 13 hFa rfl (by kernel_rfl) nE (Or.inl ⟨by rfl,?yd⟩) (.inl rfl) ?rd
   case yd=>(intro w' _;go_simp;try rfl)
   simp only [aP]
   refine oy 14 fun K hK=>?_
   go_simp
   refine hK _ _ (.inr (.inl rfl)) (dN ?_)
   clear hK K
   simp only [onlyN,Exit.then]
   clear hFa
   clear hS z1 z2 z3 z4 hi3 hn3 hc3
   obtain ⟨w8,hw8⟩:∃ W,(wb.setCell ⟨n,1,none⟩ (.slice q1 m3 e1)).setCell ⟨n,2,none⟩ (.slice q2 fl e2)=W:=⟨_,rfl⟩
   have hk8:∀ j,j ≠ n->w8.heap[j]?=wb.heap[j]?:=fun j h=>by rw [<- hw8,heap_ot h,heap_ot h]
   have hs8:w8.heap.size=wb.heap.size:=by rw [<- hw8,World.size_setCell,World.size_setCell]
   have hx8:BxL 74 n [.string ⟨x.nm.toArray⟩,.slice q1 m3 e1,.slice q2 fl e2,.int .i64 x.pos.1,.int .i64 x.pos.2] w8:=by rw [<- hw8];exact (HNB.set 1 _).set 2 _
   have HB8:=hid (show Below w5.heap.size w5 w8 from by rw [<- hw8];exact (HBB.setCell (p:=⟨n,1,none⟩) HWN.out _).setCell (p:=⟨n,2,none⟩) HWN.out _)
   have HU8:=hid (show SlG kStr (fun j=>w5.heap.size<=j/\j<w8.heap.size/\(Value.slice po k co).ownBlock ≠ some j) w8 (.slice q1 m3 e1) U1 from (HKU.sl (by rw [HUL.out];have:=HUM.out;omega)).keep fun j hj=>⟨⟨by have:=HNS.out;have:=HWN.out;omega,by rw [hs8];exact hj.2,fun e=>by have h1:=HOL.out j e;have h2:=HNS.out;omega⟩,hk8 j (by have:=HNS.out;omega)⟩)
   have HC8:=hid (show SlG kIn (fun j=>w5.heap.size<=j/\j<w8.heap.size/\(Value.slice po k co).ownBlock ≠ some j) w8 (.slice q2 fl e2) (fewL x.code) from by
    have h1:=HGC.sl (Nat.le_trans (fewL_len _) (by decide))
    rw [HFL.out] at h1
    have h4:=HZA.out
    exact h1.keep fun j hj=>⟨⟨by have:=HNS.out;have:=HWN.out;omega,by rw [hs8];exact hj.2,fun e=>by have h1:=HOL.out j e;have h2:=HNS.out;omega⟩,hk8 j (by have:=HNS.out;omega)⟩)
   have hnw:wr.heap.size<=n:=by have h1:=HRD.size;have h2:=HNS.out;have h3:=HRL.out;omega
   have HG8:=hid (show GF kFu w5.heap.size 74 w8 (.slice po k co) Q from HG.keepB (by rw [hs8];have h1:=HRB.size;have h2:=HZB.out;have h3:=HZA.out;have h4:=HNS.out;omega) fun j h1 h2=>by rw [hk8 j (by omega)];exact HRB.block j (by omega))
   rw [hw8]
   obtain ⟨s0,s1,s2,s3,s4⟩:=hx8.p5
   clear hw8 hk8 hs8 hx8
   go_wp2_with (at_builtin;refine wpList_pushF (K:=kFu) (x:=fewF x) (cs:=[.string ⟨x.nm.toArray⟩,.slice q1 m3 e1,.slice q2 fl e2,.int .i64 x.pos.1,.int .i64 x.pos.2]) (te:=74) rfl _ _ 24 rfl Tryz.underlying24 _ 80 info_fuG rfl HG8.out ⟨_,_,rfl,(by show SlG kStr _ w8 _ (x.params.take 34);rw [HUE.out];exact HU8.out),HC8.out⟩ rfl rfl (by rw [HQL.out];have:=HM.out;have:=HLT.out;omega) (by rw [HQL.out];have:=HM.out;have:=HLT.out;unfold maxLen;omega) HB8.out.size ?_;intro v6 w6 hg6 hgr6 hm6;have HG6:=hid hg6;have HB6:=hid (below_push HG8.out.ga HB8.out hgr6 HB8.out.size);clear hg6 hgr6 hm6)
   go_roundw
   case rel=>exact ⟨k+1,HLT.out,by rw [wrap_next HLT.out (show M<=140737488355328 from by have:=HM.out;omega)],by rw [HSN.out];exact HG6.out,HB6.out⟩
   case measure=>exact meas_next HLT.out (show M<=140737488355328 from by have:=HM.out;omega)
  ·obtain rfl:k=M:=by omega
   have HB:=hid hb;have HG:=hid hg
   have HQE:=hid (show Q=(p.funcs.take 5).map fewF from by rw [<- HMF.out,HQ.out])
   have HMS:=hid (And.intro hML (show k=p.funcs.length\/k=5 from by have:=HM.out;omega))
   clear hb hg hk hlt hML
   have n4:wr.cell? ⟨w.heap.size,4,none⟩=some (.slice pd p.main.length cd):=(HC.out wr HB.out).at 4 rfl
   have HPD:=hid (HP.2.2.2.below (HB5.trans (HB.mono HB5.size)))
   by_cases hf:k<p.funcs.length
   ·have hk5:¬ (k:Int)<5:=by have:=HMS.2;omega
    have HFF:=hid hf
    go_upto_region 10 with (go_at_call 42;(refine (few_any p.main _ _ HPD.out HA.out.main).mono ?_);rintro e w9 ⟨v9,rfl,hg,hb⟩;obtain ⟨p9,c9,rfl⟩:=hg.slc;have HG9:=hid hg;have HW9:=hid hb;have HB9:=hid (HB.out.trans (hb.mono HB.out.size));have HX9:=hid (HC.out w9 HB9.out);obtain ⟨ml,hml⟩:∃ q,(fewL p.main).length=q:=⟨_,rfl⟩;rw [hml];have HML:=hid hml;clear hg hb hml;have z1:w9.cell? ⟨w.heap.size,3,none⟩=some (.slice pc p.funcs.length cc):=HX9.out.at 3 rfl;have z2:∀ v,(w9.setCell ⟨w.heap.size,3,none⟩ v).cell? ⟨w.heap.size,4,none⟩=some (.slice pd p.main.length cd):=fun v=>(HX9.out.set 3 v).at 4 rfl;have z3:w9.frozen? ⟨w.heap.size,3,none⟩=false:=HX9.out.fr 3;have z4:∀ v,(w9.setCell ⟨w.heap.size,3,none⟩ v).frozen? ⟨w.heap.size,4,none⟩=false:=fun v=>(HX9.out.set 3 v).fr 4)
    clear n3 n4 z1 z2 z3 z4
    obtain ⟨wz,hwz⟩:∃ W,(w9.setCell ⟨w.heap.size,3,none⟩ (.slice po k co)).setCell ⟨w.heap.size,4,none⟩ (.slice p9 ml c9)=W:=⟨_,rfl⟩
    have hkz:∀ j,j ≠ w.heap.size->wz.heap[j]?=w9.heap[j]?:=fun j h=>by rw [<- hwz,heap_ot h,heap_ot h]
    have hsz:wz.heap.size=w9.heap.size:=by rw [<- hwz,World.size_setCell,World.size_setCell]
    have hxz:BxL 27 w.heap.size [.int .i64 p.width,.slice p1 m1 c1,.slice p2 m2 c2,.slice po k co,.slice p9 ml c9] wz:=by rw [<- hwz];exact (HX9.set 3 _).set 4 _
    have hyz:BxL 27 (w.heap.size+1) [.int .i64 0,.slice none 0 0,.slice none 0 0,.slice none 0 0,.slice none 0 0] wz:=(HY5.bel HB9.out).keep (hkz _ (by omega))
    have hbz:Below w.heap.size w wz:=by rw [<- hwz];exact ((HB5.trans (HB9.mono HB5.size)).setCell (p:=⟨w.heap.size,3,none⟩) lrf _).setCell (p:=⟨w.heap.size,4,none⟩) lrf _
    have HKZ:=hid hkz;have HSZ:=hid hsz;have HBZ:=hid hbz;have HYZ:=hid hyz
    rw [hwz]
    clear hwz hkz hsz hbz
    obtain ⟨x0,x1,x2,x3,x4⟩:=hxz.p5
    have y0:wz.cell? ⟨w.heap.size+1,0,none⟩=some (.int .i64 0):=hyz.at 0 rfl
    have g0:wz.frozen? ⟨w.heap.size+1,0,none⟩=false:=hyz.fr 0
    have y1:wz.cell? ⟨w.heap.size+1,1,none⟩=some (.slice none 0 0):=hyz.at 1 rfl
    have g1:wz.frozen? ⟨w.heap.size+1,1,none⟩=false:=hyz.fr 1
    have y2:wz.cell? ⟨w.heap.size+1,2,none⟩=some (.slice none 0 0):=hyz.at 2 rfl
    have g2:wz.frozen? ⟨w.heap.size+1,2,none⟩=false:=hyz.fr 2
    have y3:wz.cell? ⟨w.heap.size+1,3,none⟩=some (.slice none 0 0):=hyz.at 3 rfl
    have g3:wz.frozen? ⟨w.heap.size+1,3,none⟩=false:=hyz.fr 3
    have y4:wz.cell? ⟨w.heap.size+1,4,none⟩=some (.slice none 0 0):=hyz.at 4 rfl
    have g4:wz.frozen? ⟨w.heap.size+1,4,none⟩=false:=hyz.fr 4
    clear hxz hyz
    go_wp2_with fail
    clear x0 x1 x2 x3 x4 y0 y1 y2 y3 y4 g0 g1 g2 g3 g4
    obtain ⟨wq,hwq⟩:∃ W,((((wz.setCell ⟨w.heap.size+1,0,none⟩ (.int .i64 p.width)).setCell ⟨w.heap.size+1,1,none⟩ (.slice p1 m1 c1)).setCell ⟨w.heap.size+1,2,none⟩ (.slice p2 m2 c2)).setCell ⟨w.heap.size+1,3,none⟩ (.slice po k co)).setCell ⟨w.heap.size+1,4,none⟩ (.slice p9 ml c9)=W:=⟨_,rfl⟩
    rw [hwq]
    have hyq:BxL 27 (w.heap.size+1) [.int .i64 p.width,.slice p1 m1 c1,.slice p2 m2 c2,.slice po k co,.slice p9 ml c9] wq:=by rw [<- hwq];exact ((((HYZ.set 0 _).set 1 _).set 2 _).set 3 _).set 4 _
    have hkq:∀ j,j ≠ w.heap.size->j ≠ w.heap.size+1->wq.heap[j]?=w9.heap[j]?:=fun j h1 h2=>by rw [<- hwq,heap_ot h2,heap_ot h2,heap_ot h2,heap_ot h2,heap_ot h2];exact HKZ.out j h1
    have hsq:wq.heap.size=w9.heap.size:=by rw [<- hwq];simp only [World.size_setCell];exact HSZ.out
    have hbq:Below w.heap.size w wq:=by
     rw [<- hwq]
     exact ((((HBZ.setCell (p:=⟨w.heap.size+1,0,none⟩) (Nat.le_succ _) _).setCell (p:=⟨w.heap.size+1,1,none⟩) (Nat.le_succ _) _).setCell (p:=⟨w.heap.size+1,2,none⟩) (Nat.le_succ _) _).setCell (p:=⟨w.heap.size+1,3,none⟩) (Nat.le_succ _) _).setCell (p:=⟨w.heap.size+1,4,none⟩) (Nat.le_succ _) _
    obtain ⟨e0,e1,e2,e3,e4⟩:=hyq.p5
    clear hwq hyq
    refine bodyPost_ret (v := .agg #[.int .i64 p.width,.slice p1 m1 c1,.slice p2 m2 c2,.slice po k co,.slice p9 ml c9]) (by simp [results,Tryz.results12,go_sem,e0,e1,e2,e3,e4]) rfl ?_
    have h25:w.heap.size+2<=w5.heap.size:=HS25.out
    have h59:=HB9.size
    have k5:∀ j,w.heap.size+2<=j->j<w5.heap.size->wq.heap[j]?=w5.heap[j]?:=fun j h1 h2=>(hkq j (by omega) (by omega)).trans (HB9.block j h2)
    refine ⟨_,_,_,_,rfl,⟨?_,?_,?_,?_⟩,hbq⟩
    ·show SlG kStr _ wq _ (p.chans.take 34)
     rw [HE1.out]
     exact ((HG15.keepB (by omega) k5).sl (by rw [HL1.out];have:=HM1.out;omega)).weaken fun j hj=>⟨by omega,hj.2⟩
    ·show SlG kAr _ wq _ (p.arrays.take 34)
     rw [HE2.out]
     exact ((HG25.keepB (by omega) k5).sl (by rw [HL2.out];have:=HM2.out;omega)).weaken fun j hj=>⟨by omega,hj.2⟩
    ·show SlG kFu _ wq _ ((p.funcs.take 5).map fewF)
     rw [<- HQE.out]
     have h9:=HW9.size
     have h6:=HB.size
     exact (HG.keepB (by omega) fun j h1 h2=>(hkq j (by omega) (by omega)).trans (HW9.block j h2)).sl (by rw [HQL.out];have:=HMS.1.2;omega) |>.weaken fun j hj=>⟨by omega,hj.2⟩
    ·show SlG kIn _ wq _ (fewL p.main)
     have h6:=HB.size
     have h7:=(HG9.keepB (w':=wq) (by omega) fun j h1 h2=>hkq j (by omega) (by omega)).sl (Nat.le_trans (fewL_len _) (by decide))
     rw [HML.out] at h7
     exact h7.weaken fun j hj=>⟨by omega,hj.2⟩
   ·go_upto_region 10 with (go_at_call 42;(refine (few_any p.main _ _ HPD.out HA.out.main).mono ?_);rintro e w9 ⟨v9,rfl,hg,hb⟩;obtain ⟨p9,c9,rfl⟩:=hg.slc;have HG9:=hid hg;have HW9:=hid hb;have HB9:=hid (HB.out.trans (hb.mono HB.out.size));have HX9:=hid (HC.out w9 HB9.out);obtain ⟨ml,hml⟩:∃ q,(fewL p.main).length=q:=⟨_,rfl⟩;rw [hml];have HML:=hid hml;clear hg hb hml;have z1:w9.cell? ⟨w.heap.size,3,none⟩=some (.slice pc p.funcs.length cc):=HX9.out.at 3 rfl;have z2:∀ v,(w9.setCell ⟨w.heap.size,3,none⟩ v).cell? ⟨w.heap.size,4,none⟩=some (.slice pd p.main.length cd):=fun v=>(HX9.out.set 3 v).at 4 rfl;have z3:w9.frozen? ⟨w.heap.size,3,none⟩=false:=HX9.out.fr 3;have z4:∀ v,(w9.setCell ⟨w.heap.size,3,none⟩ v).frozen? ⟨w.heap.size,4,none⟩=false:=fun v=>(HX9.out.set 3 v).fr 4)
    clear n3 n4 z1 z2 z3 z4
    obtain ⟨wz,hwz⟩:∃ W,(w9.setCell ⟨w.heap.size,3,none⟩ (.slice po k co)).setCell ⟨w.heap.size,4,none⟩ (.slice p9 ml c9)=W:=⟨_,rfl⟩
    have hkz:∀ j,j ≠ w.heap.size->wz.heap[j]?=w9.heap[j]?:=fun j h=>by rw [<- hwz,heap_ot h,heap_ot h]
    have hsz:wz.heap.size=w9.heap.size:=by rw [<- hwz,World.size_setCell,World.size_setCell]
    have hxz:BxL 27 w.heap.size [.int .i64 p.width,.slice p1 m1 c1,.slice p2 m2 c2,.slice po k co,.slice p9 ml c9] wz:=by rw [<- hwz];exact (HX9.set 3 _).set 4 _
    have hyz:BxL 27 (w.heap.size+1) [.int .i64 0,.slice none 0 0,.slice none 0 0,.slice none 0 0,.slice none 0 0] wz:=(HY5.bel HB9.out).keep (hkz _ (by omega))
    have hbz:Below w.heap.size w wz:=by rw [<- hwz];exact ((HB5.trans (HB9.mono HB5.size)).setCell (p:=⟨w.heap.size,3,none⟩) lrf _).setCell (p:=⟨w.heap.size,4,none⟩) lrf _
    have HKZ:=hid hkz;have HSZ:=hid hsz;have HBZ:=hid hbz;have HYZ:=hid hyz
    rw [hwz]
    clear hwz hkz hsz hbz
    obtain ⟨x0,x1,x2,x3,x4⟩:=hxz.p5
    have y0:wz.cell? ⟨w.heap.size+1,0,none⟩=some (.int .i64 0):=hyz.at 0 rfl
    have g0:wz.frozen? ⟨w.heap.size+1,0,none⟩=false:=hyz.fr 0
    have y1:wz.cell? ⟨w.heap.size+1,1,none⟩=some (.slice none 0 0):=hyz.at 1 rfl
    have g1:wz.frozen? ⟨w.heap.size+1,1,none⟩=false:=hyz.fr 1
    have y2:wz.cell? ⟨w.heap.size+1,2,none⟩=some (.slice none 0 0):=hyz.at 2 rfl
    have g2:wz.frozen? ⟨w.heap.size+1,2,none⟩=false:=hyz.fr 2
    have y3:wz.cell? ⟨w.heap.size+1,3,none⟩=some (.slice none 0 0):=hyz.at 3 rfl
    have g3:wz.frozen? ⟨w.heap.size+1,3,none⟩=false:=hyz.fr 3
    have y4:wz.cell? ⟨w.heap.size+1,4,none⟩=some (.slice none 0 0):=hyz.at 4 rfl
    have g4:wz.frozen? ⟨w.heap.size+1,4,none⟩=false:=hyz.fr 4
    clear hxz hyz
    go_wp2_with fail
    clear x0 x1 x2 x3 x4 y0 y1 y2 y3 y4 g0 g1 g2 g3 g4
    obtain ⟨wq,hwq⟩:∃ W,((((wz.setCell ⟨w.heap.size+1,0,none⟩ (.int .i64 p.width)).setCell ⟨w.heap.size+1,1,none⟩ (.slice p1 m1 c1)).setCell ⟨w.heap.size+1,2,none⟩ (.slice p2 m2 c2)).setCell ⟨w.heap.size+1,3,none⟩ (.slice po k co)).setCell ⟨w.heap.size+1,4,none⟩ (.slice p9 ml c9)=W:=⟨_,rfl⟩
    rw [hwq]
    have hyq:BxL 27 (w.heap.size+1) [.int .i64 p.width,.slice p1 m1 c1,.slice p2 m2 c2,.slice po k co,.slice p9 ml c9] wq:=by rw [<- hwq];exact ((((HYZ.set 0 _).set 1 _).set 2 _).set 3 _).set 4 _
    have hkq:∀ j,j ≠ w.heap.size->j ≠ w.heap.size+1->wq.heap[j]?=w9.heap[j]?:=fun j h1 h2=>by rw [<- hwq,heap_ot h2,heap_ot h2,heap_ot h2,heap_ot h2,heap_ot h2];exact HKZ.out j h1
    have hsq:wq.heap.size=w9.heap.size:=by rw [<- hwq];simp only [World.size_setCell];exact HSZ.out
    have hbq:Below w.heap.size w wq:=by
     rw [<- hwq]
     exact ((((HBZ.setCell (p:=⟨w.heap.size+1,0,none⟩) (Nat.le_succ _) _).setCell (p:=⟨w.heap.size+1,1,none⟩) (Nat.le_succ _) _).setCell (p:=⟨w.heap.size+1,2,none⟩) (Nat.le_succ _) _).setCell (p:=⟨w.heap.size+1,3,none⟩) (Nat.le_succ _) _).setCell (p:=⟨w.heap.size+1,4,none⟩) (Nat.le_succ _) _
    obtain ⟨e0,e1,e2,e3,e4⟩:=hyq.p5
    clear hwq hyq
    refine bodyPost_ret (v := .agg #[.int .i64 p.width,.slice p1 m1 c1,.slice p2 m2 c2,.slice po k co,.slice p9 ml c9]) (by simp [results,Tryz.results12,go_sem,e0,e1,e2,e3,e4]) rfl ?_
    have h25:w.heap.size+2<=w5.heap.size:=HS25.out
    have h59:=HB9.size
    have k5:∀ j,w.heap.size+2<=j->j<w5.heap.size->wq.heap[j]?=w5.heap[j]?:=fun j h1 h2=>(hkq j (by omega) (by omega)).trans (HB9.block j h2)
    refine ⟨_,_,_,_,rfl,⟨?_,?_,?_,?_⟩,hbq⟩
    ·show SlG kStr _ wq _ (p.chans.take 34)
     rw [HE1.out]
     exact ((HG15.keepB (by omega) k5).sl (by rw [HL1.out];have:=HM1.out;omega)).weaken fun j hj=>⟨by omega,hj.2⟩
    ·show SlG kAr _ wq _ (p.arrays.take 34)
     rw [HE2.out]
     exact ((HG25.keepB (by omega) k5).sl (by rw [HL2.out];have:=HM2.out;omega)).weaken fun j hj=>⟨by omega,hj.2⟩
    ·show SlG kFu _ wq _ ((p.funcs.take 5).map fewF)
     rw [<- HQE.out]
     have h9:=HW9.size
     have h6:=HB.size
     exact (HG.keepB (by omega) fun j h1 h2=>(hkq j (by omega) (by omega)).trans (HW9.block j h2)).sl (by rw [HQL.out];have:=HMS.1.2;omega) |>.weaken fun j hj=>⟨by omega,hj.2⟩
    ·show SlG kIn _ wq _ (fewL p.main)
     have h6:=HB.size
     have h7:=(HG9.keepB (w':=wq) (by omega) fun j h1 h2=>hkq j (by omega) (by omega)).sl (Nat.le_trans (fewL_len _) (by decide))
     rw [HML.out] at h7
     exact h7.weaken fun j hj=>⟨by omega,hj.2⟩
end Go.Proofs.YtoofbgoeipijcaaGreatDoor
