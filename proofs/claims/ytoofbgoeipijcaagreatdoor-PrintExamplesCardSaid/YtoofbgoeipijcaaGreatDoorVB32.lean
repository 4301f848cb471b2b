/-
 A part.
-/
import Derived.Test.YtoofbgoeipijcaaGreatDoorVB31
namespace Go.Proofs.YtoofbgoeipijcaaGreatDoor
set_option maxRecDepth 100000
set_option maxHeartbeats 8000000
set_option linter.all false
open Go.RowKit Go.Shelf
attribute [local go_sem] Oper.semAt_some
theorem eqfunc_same (x:Fu) (va ua vb ub:Value) (w:World) (hpa:SlG kStr (·<w.heap.size) w va x.params) (hca:SlG kIn (·<w.heap.size) w ua x.code) (hpb:SlG kStr (·<w.heap.size) w vb x.params) (hcb:SlG kIn (·<w.heap.size) w ub x.code) :
  Calls Tryz.prog 94 #[.agg #[.string ⟨x.nm.toArray⟩,va,ua,.int .i64 x.pos.1,.int .i64 x.pos.2],.agg #[.string ⟨x.nm.toArray⟩,vb,ub,.int .i64 x.pos.1,.int .i64 x.pos.2]] w fun e w'=>e=.returned (.bool true)/\Below w.heap.size w w':=by
 obtain ⟨pa,ca,rfl⟩:=hpa.slc
 obtain ⟨qa,da,rfl⟩:=hca.slc
 obtain ⟨pb,cb,rfl⟩:=hpb.slc
 obtain ⟨qb,db,rfl⟩:=hcb.slc
 have HPA:=hid hpa;have HCA:=hid hca;have HPB:=hid hpb;have HCB:=hid hcb
 clear hpa hca hpb hcb
 go_enter Tryz.func94,Tryz.ntmps94
 go_upto_region 1 with fail
 obtain ⟨w2,hw2⟩:∃ W,(w.alloc (.cells #[.string ⟨x.nm.toArray⟩,.slice pa x.params.length ca,.slice qa x.code.length da,.int .i64 x.pos.1,.int .i64 x.pos.2] 74)).alloc (.cells #[.string ⟨x.nm.toArray⟩,.slice pb x.params.length cb,.slice qb x.code.length db,.int .i64 x.pos.1,.int .i64 x.pos.2] 74)=W:=⟨_,rfl⟩
 have HB2:=hid (show Below w.heap.size w w2 from by rw [<- hw2];exact (bA).alloc (by rw [sA];omega) _)
 have HX:=hid (show BxL 74 w.heap.size [.string ⟨x.nm.toArray⟩,.slice pa x.params.length ca,.slice qa x.code.length da,.int .i64 x.pos.1,.int .i64 x.pos.2] w2 from by rw [<- hw2];exact (BxL.new _ _ _).al _)
 have HY:=hid (show BxL 74 (w.heap.size+1) [.string ⟨x.nm.toArray⟩,.slice pb x.params.length cb,.slice qb x.code.length db,.int .i64 x.pos.1,.int .i64 x.pos.2] w2 from by rw [<- hw2];have:=BxL.new 74 (w.alloc (.cells #[.string ⟨x.nm.toArray⟩,.slice pa x.params.length ca,.slice qa x.code.length da,.int .i64 x.pos.1,.int .i64 x.pos.2] 74)) [.string ⟨x.nm.toArray⟩,.slice pb x.params.length cb,.slice qb x.code.length db,.int .i64 x.pos.1,.int .i64 x.pos.2];rw [sA] at this;exact this)
 rw [hw2]
 clear hw2
 have p0:w2.cell? ⟨w.heap.size,0,none⟩=some (.string ⟨x.nm.toArray⟩):=HX.at 0 rfl
 have q0:w2.cell? ⟨w.heap.size+1,0,none⟩=some (.string ⟨x.nm.toArray⟩):=HY.at 0 rfl
 have p1:w2.cell? ⟨w.heap.size,1,none⟩=some (.slice pa x.params.length ca):=HX.at 1 rfl
 have q1:w2.cell? ⟨w.heap.size+1,1,none⟩=some (.slice pb x.params.length cb):=HY.at 1 rfl
 have p2:w2.cell? ⟨w.heap.size,2,none⟩=some (.slice qa x.code.length da):=HX.at 2 rfl
 have q2:w2.cell? ⟨w.heap.size+1,2,none⟩=some (.slice qb x.code.length db):=HY.at 2 rfl
 have p3:w2.cell? ⟨w.heap.size,3,none⟩=some (.int .i64 x.pos.1):=HX.at 3 rfl
 have q3:w2.cell? ⟨w.heap.size+1,3,none⟩=some (.int .i64 x.pos.1):=HY.at 3 rfl
 have p4:w2.cell? ⟨w.heap.size,4,none⟩=some (.int .i64 x.pos.2):=HX.at 4 rfl
 have q4:w2.cell? ⟨w.heap.size+1,4,none⟩=some (.int .i64 x.pos.2):=HY.at 4 rfl
 go_wp2_with (first
  | (go_at_call 55;(refine (eqstrs_sameK x.params _ _ _ _ _ (HPA.out.below HB2.out) (HPB.out.below HB2.out)).mono ?_);rintro e w3 ⟨rfl,n3,hw3⟩;have hb3:Below w2.heap.size w2 w3:=(by rw [<- hw3];exact below_drewN w2 n3);have HB3:=hid (HB2.out.trans (hb3.mono HB2.out.size));have HX3:=hid (HX.out.bel hb3);have HY3:=hid (HY.out.bel hb3);clear hw3 hb3 p0 q0 p1 q1 p2 q2 p3 q3 p4 q4;have p0:w3.cell? ⟨w.heap.size,0,none⟩=some (.string ⟨x.nm.toArray⟩):=HX3.out.at 0 rfl;have q0:w3.cell? ⟨w.heap.size+1,0,none⟩=some (.string ⟨x.nm.toArray⟩):=HY3.out.at 0 rfl;have p1:w3.cell? ⟨w.heap.size,1,none⟩=some (.slice pa x.params.length ca):=HX3.out.at 1 rfl;have q1:w3.cell? ⟨w.heap.size+1,1,none⟩=some (.slice pb x.params.length cb):=HY3.out.at 1 rfl;have p2:w3.cell? ⟨w.heap.size,2,none⟩=some (.slice qa x.code.length da):=HX3.out.at 2 rfl;have q2:w3.cell? ⟨w.heap.size+1,2,none⟩=some (.slice qb x.code.length db):=HY3.out.at 2 rfl;have p3:w3.cell? ⟨w.heap.size,3,none⟩=some (.int .i64 x.pos.1):=HX3.out.at 3 rfl;have q3:w3.cell? ⟨w.heap.size+1,3,none⟩=some (.int .i64 x.pos.1):=HY3.out.at 3 rfl;have p4:w3.cell? ⟨w.heap.size,4,none⟩=some (.int .i64 x.pos.2):=HX3.out.at 4 rfl;have q4:w3.cell? ⟨w.heap.size+1,4,none⟩=some (.int .i64 x.pos.2):=HY3.out.at 4 rfl)
  | (go_at_call 58;(refine (eqinstrs_same x.code _ _ _ (HCA.out.below HB3.out) (HCB.out.below HB3.out)).mono ?_);rintro e w4 ⟨rfl,hb4⟩;have HB4:=hid (HB3.out.trans (hb4.mono HB3.out.size));have HX4:=hid (HX3.out.bel hb4);have HY4:=hid (HY3.out.bel hb4);clear hb4 p0 q0 p1 q1 p2 q2 p3 q3 p4 q4;have p0:w4.cell? ⟨w.heap.size,0,none⟩=some (.string ⟨x.nm.toArray⟩):=HX4.out.at 0 rfl;have q0:w4.cell? ⟨w.heap.size+1,0,none⟩=some (.string ⟨x.nm.toArray⟩):=HY4.out.at 0 rfl;have p1:w4.cell? ⟨w.heap.size,1,none⟩=some (.slice pa x.params.length ca):=HX4.out.at 1 rfl;have q1:w4.cell? ⟨w.heap.size+1,1,none⟩=some (.slice pb x.params.length cb):=HY4.out.at 1 rfl;have p2:w4.cell? ⟨w.heap.size,2,none⟩=some (.slice qa x.code.length da):=HX4.out.at 2 rfl;have q2:w4.cell? ⟨w.heap.size+1,2,none⟩=some (.slice qb x.code.length db):=HY4.out.at 2 rfl;have p3:w4.cell? ⟨w.heap.size,3,none⟩=some (.int .i64 x.pos.1):=HX4.out.at 3 rfl;have q3:w4.cell? ⟨w.heap.size+1,3,none⟩=some (.int .i64 x.pos.1):=HY4.out.at 3 rfl;have p4:w4.cell? ⟨w.heap.size,4,none⟩=some (.int .i64 x.pos.2):=HX4.out.at 4 rfl;have q4:w4.cell? ⟨w.heap.size+1,4,none⟩=some (.int .i64 x.pos.2):=HY4.out.at 4 rfl))
 go_ret
 exact ⟨rfl,HB4.out⟩
theorem eqfuncs_same (l:List Fu) (va vb:Value) (w:World) (ha:SlG kFu (·<w.heap.size) w va l) (hb:SlG kFu (·<w.heap.size) w vb l) :
  Calls Tryz.prog 57 #[va,vb] w fun e w'=>e=.returned (.bool true)/\Below w.heap.size w w':=by
 obtain ⟨pa,ca,rfl⟩:=ha.slc
 obtain ⟨pb,cb,rfl⟩:=hb.slc
 have HA:=hid ha;have HB:=hid hb
 clear ha hb
 go_enter Tryz.func57,Tryz.ntmps57
 go_wp2
 go_loopw [4,5] (fun rv iv wr=>∃ k:Nat,k<=l.length/\rv=.bool false/\iv=.int .i64 k/\Below w.heap.size w wr) (fun _ iv _=>l.length - (intOf iv).toNat)
 case atStart=>exact ⟨0,Nat.zero_le _,rfl,rfl,Below.refl _ _⟩
 case round =>
  obtain ⟨k,hk,rfl,rfl,hbr⟩:=hrel
  by_cases hlt:k<l.length
  ·obtain ⟨b1,o1,rfl,hR1,hc1⟩:=fu_at HA.out (by omega:0<l.length)
   obtain ⟨b2,o2,rfl,hR2,hc2⟩:=fu_at HB.out (by omega:0<l.length)
   obtain ⟨p1,cp1,m1,cm1,ha1,hm1,e0,e1,e2,e3,e4⟩:=hc1 k hlt
   obtain ⟨p2,cp2,m2,cm2,ha2,hm2,g0,g1,g2,g3,g4⟩:=hc2 k hlt
   have HBW:=hid (show Below w.heap.size w wr.drew from hbr.trans (Below.refl _ _).drew)
   have q0:wr.drew.cell? ⟨b1,o1+k*5,none⟩=some _:=(HBW.cell (p:=⟨b1,o1+k*5,none⟩) hR1).trans e0
   have q1:wr.drew.cell? ⟨b1,o1+k*5+1,none⟩=some _:=(HBW.cell (p:=⟨b1,o1+k*5+1,none⟩) hR1).trans e1
   have q2:wr.drew.cell? ⟨b1,o1+k*5+2,none⟩=some _:=(HBW.cell (p:=⟨b1,o1+k*5+2,none⟩) hR1).trans e2
   have q3:wr.drew.cell? ⟨b1,o1+k*5+3,none⟩=some _:=(HBW.cell (p:=⟨b1,o1+k*5+3,none⟩) hR1).trans e3
   have q4:wr.drew.cell? ⟨b1,o1+k*5+4,none⟩=some _:=(HBW.cell (p:=⟨b1,o1+k*5+4,none⟩) hR1).trans e4
   have t0:wr.drew.cell? ⟨b2,o2+k*5,none⟩=some _:=(HBW.cell (p:=⟨b2,o2+k*5,none⟩) hR2).trans g0
   have t1:wr.drew.cell? ⟨b2,o2+k*5+1,none⟩=some _:=(HBW.cell (p:=⟨b2,o2+k*5+1,none⟩) hR2).trans g1
   have t2:wr.drew.cell? ⟨b2,o2+k*5+2,none⟩=some _:=(HBW.cell (p:=⟨b2,o2+k*5+2,none⟩) hR2).trans g2
   have t3:wr.drew.cell? ⟨b2,o2+k*5+3,none⟩=some _:=(HBW.cell (p:=⟨b2,o2+k*5+3,none⟩) hR2).trans g3
   have t4:wr.drew.cell? ⟨b2,o2+k*5+4,none⟩=some _:=(HBW.cell (p:=⟨b2,o2+k*5+4,none⟩) hR2).trans g4
   have HA1:=hid (ha1.below HBW.out);have HA2:=hid (ha2.below HBW.out);have HM1:=hid (hm1.below HBW.out);have HM2:=hid (hm2.below HBW.out)
   have HLT:=hid hlt
   clear hc1 hc2 ha1 ha2 hm1 hm2 hR1 hR2 hbr e0 g0 e1 g1 e2 g2 e3 g3 e4 g4
   generalize l[k]=x at *
   clear hlt
   have hlt:=HLT.out
   go_upto_region 6 with fail
   have hS:(fun W=>W.cell? ⟨b1,o1+k*5,none⟩=some (.string ⟨x.nm.toArray⟩)/\W.cell? ⟨b1,o1+k*5+1,none⟩=some (.slice p1 x.params.length cp1)/\W.cell? ⟨b1,o1+k*5+2,none⟩=some (.slice m1 x.code.length cm1)/\W.cell? ⟨b1,o1+k*5+3,none⟩=some (.int .i64 x.pos.1)/\W.cell? ⟨b1,o1+k*5+4,none⟩=some (.int .i64 x.pos.2)/\W.cell? ⟨b2,o2+k*5,none⟩=some (.string ⟨x.nm.toArray⟩)/\W.cell? ⟨b2,o2+k*5+1,none⟩=some (.slice p2 x.params.length cp2)/\W.cell? ⟨b2,o2+k*5+2,none⟩=some (.slice m2 x.code.length cm2)/\W.cell? ⟨b2,o2+k*5+3,none⟩=some (.int .i64 x.pos.1)/\W.cell? ⟨b2,o2+k*5+4,none⟩=some (.int .i64 x.pos.2)) wr.drew:=⟨q0,q1,q2,q3,q4,t0,t1,t2,t3,t4⟩
   clear q0 t0 q1 t1 q2 t2 q3 t3 q4 t4
   have hFa:=fT
   refine rgN (fun W=>W.cell? ⟨b1,o1+k*5,none⟩=some (.string ⟨x.nm.toArray⟩)/\W.cell? ⟨b1,o1+k*5+1,none⟩=some (.slice p1 x.params.length cp1)/\W.cell? ⟨b1,o1+k*5+2,none⟩=some (.slice m1 x.code.length cm1)/\W.cell? ⟨b1,o1+k*5+3,none⟩=some (.int .i64 x.pos.1)/\W.cell? ⟨b1,o1+k*5+4,none⟩=some (.int .i64 x.pos.2)/\W.cell? ⟨b2,o2+k*5,none⟩=some (.string ⟨x.nm.toArray⟩)/\W.cell? ⟨b2,o2+k*5+1,none⟩=some (.slice p2 x.params.length cp2)/\W.cell? ⟨b2,o2+k*5+2,none⟩=some (.slice m2 x.code.length cm2)/\W.cell? ⟨b2,o2+k*5+3,none⟩=some (.int .i64 x.pos.1)/\W.cell? ⟨b2,o2+k*5+4,none⟩=some (.int .i64 x.pos.2)) 8 (by kernel_rfl) ?_
   simp only [zP,Nat.reduceAdd]
   iterate 3 (refine npW (v:=?_) 10 (.inr hS) ?_ ?_;rotate_left;(focus intro w' _;go_simp;try rfl);simp only [aP])
   refine wpHJ_take (v:=?v0) 3 hFa rfl (by kernel_rfl) nE (Or.inl ⟨by rfl,?y0⟩) hS ?r0
   case y0=>(rintro w' ⟨s0,s1,s2,s3,s4,s5,s6,s7,s8,s9⟩;go_simp;try rfl)
   simp only [aP]
   iterate 3 (refine npW (v:=?_) 10 (.inr hS) ?_ ?_;rotate_left;(focus intro w' _;go_simp;try rfl);simp only [aP])
   refine wpHJ_take (v:=?v1) 7 hFa rfl (by kernel_rfl) nE (Or.inl ⟨by rfl,?y1⟩) hS ?r1
   case y1=>(rintro w' ⟨s0,s1,s2,s3,s4,s5,s6,s7,s8,s9⟩;go_simp;try rfl)
   simp only [aP]
   refine oy 8 fun K hK=>?_
   go_simp
   (refine (callsIn_wide.2 (eqfunc_same x _ _ _ _ _ HA1.out HM1.out HA2.out HM2.out)).mono ?_)
   rintro e w5 ⟨rfl,hb⟩
   have HB5:=hid (HBW.trans (hb.mono HBW.size))
   clear hb
   refine hK _ _ (.inl rfl) ?_
   clear hK K
   refine wpHJ_pure (v:=?v2) 9 hFa rfl (by kernel_rfl) nE (Or.inl ⟨by rfl,?y2⟩) (.inl rfl) ?r2
   case y2=>(intro w' _;go_simp;try rfl)
   simp only [aP]
   refine wpHJ_done (by kernel_rfl) ?_ _
   simp only [onlyN,Exit.then]
   clear hFa
   clear hS
   go_wp2_with fail
   go_roundw
   case rel=>exact ⟨k+1,HLT.out,by first | rfl | trivial,by first | (rw [wrap_next HLT.out HA.len]) | rfl,HB5.out⟩
   case measure=>first | exact meas_next HLT.out HA.len | (have h1:=HLT.out;simp [intOf];omega)
  ·obtain rfl:k=l.length:=by omega
   clear hlt
   have HBR:=hid hbr
   clear hbr
   go_wp2
   go_ret
   exact ⟨rfl,HBR.out⟩
theorem eqprog_same (p:Pg) (va vb vc vd ua ub uc ud:Value) (w:World) (hp:PgV (·<w.heap.size) w va vb vc vd p) (hr:PgV (·<w.heap.size) w ua ub uc ud p) :
  Calls Tryz.prog 16 #[.agg #[.int .i64 p.width,va,vb,vc,vd],.agg #[.int .i64 p.width,ua,ub,uc,ud]] w fun e w'=>e=.returned (.bool true)/\Below w.heap.size w w':=by
 obtain ⟨aa,ma,h1⟩:=hp.1.slc
 obtain ⟨ab,mb,h2⟩:=hp.2.1.slc
 obtain ⟨ac,mc,h3⟩:=hp.2.2.1.slc
 obtain ⟨ad,md,h4⟩:=hp.2.2.2.slc
 obtain ⟨ba,na,h5⟩:=hr.1.slc
 obtain ⟨bb,nb,h6⟩:=hr.2.1.slc
 obtain ⟨bc,nc,h7⟩:=hr.2.2.1.slc
 obtain ⟨bd,nd,h8⟩:=hr.2.2.2.slc
 subst h1 h2 h3 h4 h5 h6 h7 h8
 have HP:=hid hp;have HR:=hid hr
 clear hp hr
 go_enter Tryz.func16,Tryz.ntmps16
 go_upto_region 1 with fail
 obtain ⟨w2,hw2⟩:∃ W,(w.alloc (.cells #[.int .i64 p.width,.slice aa p.chans.length ma,.slice ab p.arrays.length mb,.slice ac p.funcs.length mc,.slice ad p.main.length md] 27)).alloc (.cells #[.int .i64 p.width,.slice ba p.chans.length na,.slice bb p.arrays.length nb,.slice bc p.funcs.length nc,.slice bd p.main.length nd] 27)=W:=⟨_,rfl⟩
 have HB1:=hid (show Below w.heap.size w w2 from by rw [<- hw2];exact (bA).alloc (by rw [sA];omega) _)
 have HX1:=hid (show BxL 27 w.heap.size [.int .i64 p.width,.slice aa p.chans.length ma,.slice ab p.arrays.length mb,.slice ac p.funcs.length mc,.slice ad p.main.length md] w2 from by rw [<- hw2];exact (BxL.new _ _ _).al _)
 have HY1:=hid (show BxL 27 (w.heap.size+1) [.int .i64 p.width,.slice ba p.chans.length na,.slice bb p.arrays.length nb,.slice bc p.funcs.length nc,.slice bd p.main.length nd] w2 from by rw [<- hw2];have:=BxL.new 27 (w.alloc (.cells #[.int .i64 p.width,.slice aa p.chans.length ma,.slice ab p.arrays.length mb,.slice ac p.funcs.length mc,.slice ad p.main.length md] 27)) [.int .i64 p.width,.slice ba p.chans.length na,.slice bb p.arrays.length nb,.slice bc p.funcs.length nc,.slice bd p.main.length nd];rw [sA] at this;exact this)
 have HP1:=hid (HP.below HB1.out);have HR1:=hid (HR.below HB1.out)
 rw [hw2]
 clear hw2
 have p0:w2.cell? ⟨w.heap.size,0,none⟩=some (.int .i64 p.width):=HX1.at 0 rfl
 have q0:w2.cell? ⟨w.heap.size+1,0,none⟩=some (.int .i64 p.width):=HY1.at 0 rfl
 have p1:w2.cell? ⟨w.heap.size,1,none⟩=some (.slice aa p.chans.length ma):=HX1.at 1 rfl
 have q1:w2.cell? ⟨w.heap.size+1,1,none⟩=some (.slice ba p.chans.length na):=HY1.at 1 rfl
 have p2:w2.cell? ⟨w.heap.size,2,none⟩=some (.slice ab p.arrays.length mb):=HX1.at 2 rfl
 have q2:w2.cell? ⟨w.heap.size+1,2,none⟩=some (.slice bb p.arrays.length nb):=HY1.at 2 rfl
 have p3:w2.cell? ⟨w.heap.size,3,none⟩=some (.slice ac p.funcs.length mc):=HX1.at 3 rfl
 have q3:w2.cell? ⟨w.heap.size+1,3,none⟩=some (.slice bc p.funcs.length nc):=HY1.at 3 rfl
 have p4:w2.cell? ⟨w.heap.size,4,none⟩=some (.slice ad p.main.length md):=HX1.at 4 rfl
 have q4:w2.cell? ⟨w.heap.size+1,4,none⟩=some (.slice bd p.main.length nd):=HY1.at 4 rfl
 go_wp2_with (first
  | (go_at_call 55;(refine (eqstrs_sameK p.chans _ _ _ _ _ (HP1.out.1) (HR1.out.1)).mono ?_);rintro e w3 ⟨rfl,nn,hww⟩;have hb:Below w2.heap.size w2 w3:=(by rw [<- hww];exact below_drewN w2 nn);clear hww;have HB2:=hid (HB1.out.trans (hb.mono HB1.out.size));have HX2:=hid (HX1.out.bel hb);have HY2:=hid (HY1.out.bel hb);have HP2:=hid (HP1.out.below hb);have HR2:=hid (HR1.out.below hb);clear hb p0 q0 p1 q1 p2 q2 p3 q3 p4 q4;have p0:w3.cell? ⟨w.heap.size,0,none⟩=some (.int .i64 p.width):=HX2.out.at 0 rfl;have q0:w3.cell? ⟨w.heap.size+1,0,none⟩=some (.int .i64 p.width):=HY2.out.at 0 rfl;have p1:w3.cell? ⟨w.heap.size,1,none⟩=some (.slice aa p.chans.length ma):=HX2.out.at 1 rfl;have q1:w3.cell? ⟨w.heap.size+1,1,none⟩=some (.slice ba p.chans.length na):=HY2.out.at 1 rfl;have p2:w3.cell? ⟨w.heap.size,2,none⟩=some (.slice ab p.arrays.length mb):=HX2.out.at 2 rfl;have q2:w3.cell? ⟨w.heap.size+1,2,none⟩=some (.slice bb p.arrays.length nb):=HY2.out.at 2 rfl;have p3:w3.cell? ⟨w.heap.size,3,none⟩=some (.slice ac p.funcs.length mc):=HX2.out.at 3 rfl;have q3:w3.cell? ⟨w.heap.size+1,3,none⟩=some (.slice bc p.funcs.length nc):=HY2.out.at 3 rfl;have p4:w3.cell? ⟨w.heap.size,4,none⟩=some (.slice ad p.main.length md):=HX2.out.at 4 rfl;have q4:w3.cell? ⟨w.heap.size+1,4,none⟩=some (.slice bd p.main.length nd):=HY2.out.at 4 rfl)
  | (go_at_call 56;(refine (eqarrs_sameK p.arrays _ _ _ _ _ (HP2.out.2.1) (HR2.out.2.1)).mono ?_);rintro e w4 ⟨rfl,nn,hww⟩;have hb:Below w3.heap.size w3 w4:=(by rw [<- hww];exact below_drewN w3 nn);clear hww;have HB3:=hid (HB2.out.trans (hb.mono HB2.out.size));have HX3:=hid (HX2.out.bel hb);have HY3:=hid (HY2.out.bel hb);have HP3:=hid (HP2.out.below hb);have HR3:=hid (HR2.out.below hb);clear hb p0 q0 p1 q1 p2 q2 p3 q3 p4 q4;have p0:w4.cell? ⟨w.heap.size,0,none⟩=some (.int .i64 p.width):=HX3.out.at 0 rfl;have q0:w4.cell? ⟨w.heap.size+1,0,none⟩=some (.int .i64 p.width):=HY3.out.at 0 rfl;have p1:w4.cell? ⟨w.heap.size,1,none⟩=some (.slice aa p.chans.length ma):=HX3.out.at 1 rfl;have q1:w4.cell? ⟨w.heap.size+1,1,none⟩=some (.slice ba p.chans.length na):=HY3.out.at 1 rfl;have p2:w4.cell? ⟨w.heap.size,2,none⟩=some (.slice ab p.arrays.length mb):=HX3.out.at 2 rfl;have q2:w4.cell? ⟨w.heap.size+1,2,none⟩=some (.slice bb p.arrays.length nb):=HY3.out.at 2 rfl;have p3:w4.cell? ⟨w.heap.size,3,none⟩=some (.slice ac p.funcs.length mc):=HX3.out.at 3 rfl;have q3:w4.cell? ⟨w.heap.size+1,3,none⟩=some (.slice bc p.funcs.length nc):=HY3.out.at 3 rfl;have p4:w4.cell? ⟨w.heap.size,4,none⟩=some (.slice ad p.main.length md):=HX3.out.at 4 rfl;have q4:w4.cell? ⟨w.heap.size+1,4,none⟩=some (.slice bd p.main.length nd):=HY3.out.at 4 rfl)
  | (go_at_call 57;(refine (eqfuncs_same p.funcs _ _ _ (HP3.out.2.2.1) (HR3.out.2.2.1)).mono ?_);rintro e w5 ⟨rfl,hb⟩;have HB4:=hid (HB3.out.trans (hb.mono HB3.out.size));have HX4:=hid (HX3.out.bel hb);have HY4:=hid (HY3.out.bel hb);have HP4:=hid (HP3.out.below hb);have HR4:=hid (HR3.out.below hb);clear hb p0 q0 p1 q1 p2 q2 p3 q3 p4 q4;have p0:w5.cell? ⟨w.heap.size,0,none⟩=some (.int .i64 p.width):=HX4.out.at 0 rfl;have q0:w5.cell? ⟨w.heap.size+1,0,none⟩=some (.int .i64 p.width):=HY4.out.at 0 rfl;have p1:w5.cell? ⟨w.heap.size,1,none⟩=some (.slice aa p.chans.length ma):=HX4.out.at 1 rfl;have q1:w5.cell? ⟨w.heap.size+1,1,none⟩=some (.slice ba p.chans.length na):=HY4.out.at 1 rfl;have p2:w5.cell? ⟨w.heap.size,2,none⟩=some (.slice ab p.arrays.length mb):=HX4.out.at 2 rfl;have q2:w5.cell? ⟨w.heap.size+1,2,none⟩=some (.slice bb p.arrays.length nb):=HY4.out.at 2 rfl;have p3:w5.cell? ⟨w.heap.size,3,none⟩=some (.slice ac p.funcs.length mc):=HX4.out.at 3 rfl;have q3:w5.cell? ⟨w.heap.size+1,3,none⟩=some (.slice bc p.funcs.length nc):=HY4.out.at 3 rfl;have p4:w5.cell? ⟨w.heap.size,4,none⟩=some (.slice ad p.main.length md):=HX4.out.at 4 rfl;have q4:w5.cell? ⟨w.heap.size+1,4,none⟩=some (.slice bd p.main.length nd):=HY4.out.at 4 rfl)
  | (go_at_call 58;(refine (eqinstrs_same p.main _ _ _ (HP4.out.2.2.2) (HR4.out.2.2.2)).mono ?_);rintro e w6 ⟨rfl,hb⟩;have HB5:=hid (HB4.out.trans (hb.mono HB4.out.size));have HX5:=hid (HX4.out.bel hb);have HY5:=hid (HY4.out.bel hb);have HP5:=hid (HP4.out.below hb);have HR5:=hid (HR4.out.below hb);clear hb p0 q0 p1 q1 p2 q2 p3 q3 p4 q4;have p0:w6.cell? ⟨w.heap.size,0,none⟩=some (.int .i64 p.width):=HX5.out.at 0 rfl;have q0:w6.cell? ⟨w.heap.size+1,0,none⟩=some (.int .i64 p.width):=HY5.out.at 0 rfl;have p1:w6.cell? ⟨w.heap.size,1,none⟩=some (.slice aa p.chans.length ma):=HX5.out.at 1 rfl;have q1:w6.cell? ⟨w.heap.size+1,1,none⟩=some (.slice ba p.chans.length na):=HY5.out.at 1 rfl;have p2:w6.cell? ⟨w.heap.size,2,none⟩=some (.slice ab p.arrays.length mb):=HX5.out.at 2 rfl;have q2:w6.cell? ⟨w.heap.size+1,2,none⟩=some (.slice bb p.arrays.length nb):=HY5.out.at 2 rfl;have p3:w6.cell? ⟨w.heap.size,3,none⟩=some (.slice ac p.funcs.length mc):=HX5.out.at 3 rfl;have q3:w6.cell? ⟨w.heap.size+1,3,none⟩=some (.slice bc p.funcs.length nc):=HY5.out.at 3 rfl;have p4:w6.cell? ⟨w.heap.size,4,none⟩=some (.slice ad p.main.length md):=HX5.out.at 4 rfl;have q4:w6.cell? ⟨w.heap.size+1,4,none⟩=some (.slice bd p.main.length nd):=HY5.out.at 4 rfl))
 go_ret
 exact ⟨rfl,HB5.out⟩
def allC (p:Pg) (k:Nat):List In:=((List.range k).map (bodyAt p)).flatten
theorem allC_next (p:Pg) (k:Nat):allC p (k+1)=allC p k++bodyAt p k:=by
 unfold allC
 rw [List.range_succ,List.map_append,List.flatten_append]
 simp
theorem allC_funcs (p:Pg):∀ k,k<=p.funcs.length->allC p k=codes (p.funcs.take k)
 | 0,_=>by simp [allC,codes]
 | k+1,h=>by
  rw [allC_next,allC_funcs p k (by omega),List.take_succ_eq_append_getElem (by omega:k<p.funcs.length)]
  unfold codes bodyAt
  rw [dif_pos (by omega:k<p.funcs.length)]
  simp only [List.map_append,List.map_cons,List.map_nil,List.flatten_append,List.flatten_cons,List.flatten_nil,List.append_nil]
theorem allC_all (p:Pg):allC p (p.funcs.length+1)=codes p.funcs++p.main:=by
 rw [allC_next,allC_funcs p _ lrf,List.take_length]
 unfold bodyAt
 rw [dif_neg (by omega)]
theorem allC_len (p:Pg) (j k:Nat) (h:j<=k):(allC p j).length<=(allC p k).length:=by
 induction k with
 | zero =>
  obtain rfl:j=0:=by omega
  exact Nat.le_refl _
 | succ k ih =>
  by_cases e:j=k+1
  ·rw [e];exact Nat.le_refl _
  ·rw [allC_next,List.length_append];have:=ih (by omega);omega
theorem sites_app:∀ (l m:List In) (s:List Bs),sitesM s (l++m)=sitesM (sitesM s l) m
 | [],m,s=>rfl
 | x :: r,m,s=>by
  simp only [List.cons_append,sitesM]
  split
  ·exact sites_app r m _
  ·exact sites_app r m _
theorem sites_len:∀ (l:List In) (s:List Bs),(sitesM s l).length<=s.length+l.length
 | [],s=>by simp [sitesM]
 | x :: r,s=>by
  simp only [sitesM]
  split
  ·have:=sites_len r (s++[x.nm]);simp at this ⊢;omega
  ·have:=sites_len r s;simp at this ⊢;omega
theorem rsites_any (p:Pg) (a b c d:Value) (w:World) (hp:PgV (·<w.heap.size) w a b c d p) (hf:p.funcs.length<=1000000) (hl:(codes p.funcs++p.main).length<=1000000) :
  Calls Tryz.prog 133 #[.agg #[.int .i64 p.width,a,b,c,d]] w fun e w'=>∃ v',e=.returned v'/\GF kStr w.heap.size 9 w' v' (sitesP p)/\Below w.heap.size w w':=by
 obtain ⟨pa,ca,hva⟩:=hp.1.slc
 obtain ⟨pb,cb,hvb⟩:=hp.2.1.slc
 obtain ⟨pc,cc,hvc⟩:=hp.2.2.1.slc
 obtain ⟨pd,cd,hvd⟩:=hp.2.2.2.slc
 subst hva hvb hvc hvd
 have HP:=hid hp
 have HL:=hid hl;have HF:=hid hf
 clear hp hl hf
 obtain ⟨wo,hwo⟩:∃ W,w.alloc (.cells #[.int .i64 p.width,.slice pa p.chans.length ca,.slice pb p.arrays.length cb,.slice pc p.funcs.length cc,.slice pd p.main.length cd] 27)=W:=⟨_,rfl⟩
 have HWO:=hid hwo
 have HX:=hid (show BxL 27 w.heap.size [.int .i64 p.width,.slice pa p.chans.length ca,.slice pb p.arrays.length cb,.slice pc p.funcs.length cc,.slice pd p.main.length cd] wo from by rw [<- hwo];exact BxL.new _ _ _)
 have HB:=hid (show Below w.heap.size w wo from by rw [<- hwo];exact bA)
 have HG:=hid (show PgV (·<wo.heap.size) wo (.slice pa p.chans.length ca) (.slice pb p.arrays.length cb) (.slice pc p.funcs.length cc) (.slice pd p.main.length cd) p from HP.below HB.out)
 clear hwo
 have HBL:=hid (show ∀ k m,k<=p.funcs.length->(sitesM [] (allC p k++(bodyAt p k).take m)).length<=1000000 from fun k m hk=>by
  have h1:=sites_len (allC p k++(bodyAt p k).take m) []
  have h2:=allC_len p (k+1) (p.funcs.length+1) (by omega)
  have h3:=HL.out
  rw [allC_all,allC_next] at h2
  simp only [List.length_append,List.length_take,List.length_nil] at h1 h2 h3
  omega)
 have n3:wo.cell? ⟨w.heap.size,3,none⟩=some (.slice pc p.funcs.length cc):=HX.at 3 rfl
 go_enter Tryz.func133,Tryz.ntmps133
 go_upto_region 1 with fail
 rw [HWO.out]
 go_wp2_with fail
 clear n3
 go_loopw [3,4,5,6] (fun ov iv u5 u6 wr=>∃ k:Nat,k<=p.funcs.length+1/\iv=.int .i64 (k:Int)/\GA kStr wo.heap.size 9 wr ov (sitesM [] (allC p k))/\Below wo.heap.size wo wr) (fun _ iv _ _ _=>p.funcs.length+1 - (intOf iv).toNat)
 case atStart=>exact ⟨0,Nat.zero_le _,rfl,GA.nil _ _ _ _,Below.refl _ _⟩
 case round =>
  obtain ⟨k,hk,rfl,hga,hbr⟩:=hrel
  obtain ⟨T,hT⟩:∃ T,sitesM [] (allC p k)=T:=⟨_,rfl⟩
  rw [hT] at hga
  have HTD:=hid hT
  clear hT
  obtain ⟨po,co,rfl⟩:=hga.slc
  obtain ⟨wi,rfl⟩:∃ wi:World,wi=wr:=⟨_,rfl⟩
  obtain ⟨n0,n1,n2,n3,n4⟩:=(HX.bel hbr).p5
  have HBI:=hid hbr;have HGI:=hid hga
  clear hbr hga
  by_cases hlt:k<=p.funcs.length
  ·have hd:decide ((k:Int)<=(p.funcs.length:Int))=true:=by simp;omega
   have HK:=hid hlt
   have HPI:=hid (show PgV (·<wo.heap.size) wi (.slice pa p.chans.length ca) (.slice pb p.arrays.length cb) (.slice pc p.funcs.length cc) (.slice pd p.main.length cd) p from HG.keep fun j hj=>⟨hj,HBI.block j hj⟩)
   obtain ⟨L,hL⟩:∃ L,bodyAt p k=L:=⟨_,rfl⟩
   have HLd:=hid hL
   have HLb:=hid (show ∀ m,(sitesM [] (allC p k++L.take m)).length<=1000000 from fun m=>by rw [<- hL];exact HBL.out k m hlt)
   have HL2:=hid (show L.length<=1000000 from by
    have h2:=allC_len p (k+1) (p.funcs.length+1) (by omega)
    have h3:=HL.out
    rw [allC_all,allC_next,hL] at h2
    simp only [List.length_append] at h2 h3
    omega)
   have HLN:=hid (show sitesM [] (allC p (k+1))=sitesM [] (allC p k++L) from by rw [allC_next,hL])
   clear hL
   go_wp2_with (go_at_call 134;(refine (rbodyat_any p _ _ _ _ k _ _ HPI.out (fun j hj=>Nat.lt_of_lt_of_le hj HBI.out.size)).mono ?_);rintro e w3 ⟨v3,rfl,hs,hb3⟩;rw [HLd.out] at hs;obtain ⟨p3,c3,rfl⟩:=hs.slc;have HB3:=hid (HBI.out.trans (hb3.mono HBI.out.size));have HG3:=hid (HGI.out.keep hb3);have HSo:=hid (show SlG kIn (·<wo.heap.size) wo (.slice p3 L.length c3) L from hs.keep fun j hj=>⟨hj,(HB3.out.block j hj).symm⟩);clear hs hb3 n0 n1 n2 n3 n4)
   go_loopw [3,6] (fun ov jv ws=>∃ m:Nat,m<=L.length/\jv=.int .i64 (m:Int)/\GA kStr wo.heap.size 9 ws ov (sitesM [] (allC p k++L.take m))/\Below wo.heap.size wo ws) (fun _ jv _=>L.length - (intOf jv).toNat)
   case atStart=>exact ⟨0,Nat.zero_le _,rfl,by rw [List.take_zero,List.append_nil,HTD.out];exact HG3.out,HB3.out⟩
   case round =>
    obtain ⟨m,hm,rfl,hga,hbr⟩:=hrel
    obtain ⟨T2,hT2⟩:∃ T,sitesM [] (allC p k++L.take m)=T:=⟨_,rfl⟩
    rw [hT2] at hga
    have HT2:=hid hT2
    have HLT2:=hid (show T2.length<=1000000 from by rw [<- hT2];exact HLb.out m)
    clear hT2
    obtain ⟨po,co,rfl⟩:=hga.slc
    by_cases hlm:m<L.length
    ·obtain ⟨b,off,rfl,hR,hcells⟩:=in_at HSo.out (by omega:0<L.length)
     obtain ⟨pi,ci,hargs,q0,q1,q2,q3,q4,q5,q6⟩:=hcells m hlm
     have q0:=(hbr.cell (p:=⟨b,off+m*7,none⟩) hR).trans q0
     have q3:=(hbr.cell (p:=⟨b,off+m*7+3,none⟩) hR).trans q3
     have HST:=hid (show sitesM [] (allC p k++L.take (m+1))=if (L[m]).kind=7/\T2.contains (L[m]).nm=false then T2++[(L[m]).nm] else T2 from by
      rw [List.take_succ_eq_append_getElem hlm,<- List.append_assoc,sites_app,HT2.out];simp only [sitesM])
     have HBO:=hid hbr;have HGO:=hid hga;have HLM:=hid hlm
     clear hcells hargs hR hbr hga HT2 q1 q2 q4 q5 q6
     generalize L[m]=x at *
     clear hlm
     have HKS:=hid (show SlG kStr (·<wr.heap.size) wr (.slice po T2.length co) T2 from HGO.gfS.slw (by have:=HLT2.out;omega))
     by_cases hk7:x.kind=7
     ·replace q0:wr.cell? ⟨b,off+m*7,none⟩=some (.int .u8 7):=by rw [q0,hk7];rfl
      obtain ⟨cc2,hcc⟩:∃ cc,T2.contains x.nm=cc:=⟨_,rfl⟩
      have HCC:=hid hcc
      have HK7:=hid hk7
      clear hcc hk7
      generalize x.nm=y at *
      by_cases hcb:cc2=true
      ·have hnot:(!cc2)=false:=by rw [hcb];rfl
       have HCB:=hid hcb
       clear hcb
       have HSQ:=hid (HST.trans (if_neg (by rw [HCC.out,HCB.out];simp)))
       clear HST
       go_wp2_with (go_at_call 132;(refine (ris_any T2 y _ _ _ HKS.out).mono ?_);rintro e w4 ⟨rfl,rfl⟩;rw [HCC.out])
       go_roundw
       case rel=>exact ⟨m+1,HLM.out,by first | (rw [wrap_next HLM.out (by have:=HL2.out;omega)]) | rfl,by rw [HSQ.out];exact HGO.out,HBO.out⟩
       case measure=>first | exact meas_next HLM.out (by have:=HL2.out;omega) | (have h1:=HLM.out;simp [intOf];omega)
      ·have hcf:cc2=false:=by simpa using hcb
       have hnot:(!cc2)=true:=by rw [hcf];rfl
       have HCB:=hid hcf
       clear hcb hcf
       have HSQ:=hid (HST.trans (if_pos ⟨HK7.out,HCC.trans HCB.out⟩))
       clear HST
       go_wp2_with (first
        | (go_at_call 132;(refine (ris_any T2 y _ _ _ HKS.out).mono ?_);rintro e w4 ⟨rfl,rfl⟩;rw [HCC.out])
        | (at_builtin;refine wpList_push (K:=kStr) (x:=y) (cs:=[.string ⟨y.toArray⟩]) (te:=9) rfl _ _ 22 rfl Tryz.underlying22 _ 16 info_strG rfl HGO.out rfl rfl rfl (by have:=HLT2.out;omega) (by have:=HLT2.out;unfold maxLen;omega) HBO.out.size ?_;intro v5 w5 hg5 hgr5 hm5;have HG5:=hid hg5;have HB5:=hid (below_push HGO.out HBO.out hgr5 HBO.out.size);clear hg5 hgr5 hm5))
       go_roundw
       case rel=>exact ⟨m+1,HLM.out,by first | (rw [wrap_next HLM.out (by have:=HL2.out;omega)]) | rfl,by rw [HSQ.out];exact HG5.out,HB5.out⟩
       case measure=>first | exact meas_next HLM.out (by have:=HL2.out;omega) | (have h1:=HLM.out;simp [intOf];omega)
     ·have hwd:((x.kind:Int) == 7)=false:=by rw [beq_eq_false_iff_ne];omega
      have HSQ:=hid (HST.trans (if_neg (fun h=>hk7 h.1)))
      clear HST hk7
      go_wp2_with fail
      go_roundw
      case rel=>exact ⟨m+1,HLM.out,by first | (rw [wrap_next HLM.out (by have:=HL2.out;omega)]) | rfl,by rw [HSQ.out];exact HGO.out,HBO.out⟩
      case measure=>first | exact meas_next HLM.out (by have:=HL2.out;omega) | (have h1:=HLM.out;simp [intOf];omega)
    ·obtain rfl:m=L.length:=by omega
     have HBR:=hid hbr;have HGA:=hid hga
     clear hlm hbr hga
     go_wp2_with fail
     go_roundw
     case rel=>exact ⟨k+1,by have:=HK.out;omega,by first | (rw [wrap_next (show k<1000001 by have:=HK.out;have:=HF.out;omega) (by decide)]) | rfl,by rw [HLN.out];have h:=HT2.out;rw [List.take_length] at h;rw [h];exact HGA.out,HBR.out⟩
     case measure=>(have h1:=HK.out;have h2:=HF.out;rw [wrap_next (show k<1000001 by omega) (by decide)];show _ - ((k+1:Nat):Int).toNat<_ - ((k:Nat):Int).toNat;omega)
  ·obtain rfl:k=p.funcs.length+1:=by omega
   have hd:decide ((p.funcs.length:Int)+1<=(p.funcs.length:Int))=false:=by simp;omega
   go_wp2_with fail
   go_ret
   have hT:=HTD.out
   rw [allC_all] at hT
   have hga:=HGI.out
   have hsp:sitesP p=T:=hT
   rw [hsp]
   exact ⟨_,rfl,hga.gfS.base HB.size,HB.trans (HBI.mono HB.size)⟩
theorem find_of_find (p:Pg) (s:Bs):(p.funcs.find? fun f=>decide (f.nm=s))=(findM p s).bind fun k=>p.funcs[k]?:=by
 unfold findM
 cases h:p.funcs.findIdx? (fun f=>decide (f.nm=s)) with
 | none =>
  rw [Option.bind_none,List.find?_eq_none]
  rw [List.findIdx?_eq_none_iff] at h
  intro x hx;have:=h x hx;simpa using this
 | some k =>
  rw [Option.bind_some]
  obtain ⟨hk,h1,h2⟩:=List.findIdx?_eq_some_iff_getElem.1 h
  rw [List.getElem?_eq_getElem hk,List.find?_eq_some_iff_getElem]
  exact ⟨h1,k,hk,rfl,fun j hj=>by have:=h2 j hj;simpa using this⟩
theorem find_lt {p:Pg} {s:Bs} {k:Nat} (h:findM p s=some k):k<p.funcs.length:=by
 unfold findM at h
 exact (List.findIdx?_eq_some_iff_getElem.1 h).1
end Go.Proofs.YtoofbgoeipijcaaGreatDoor
