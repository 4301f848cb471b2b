/-
 A part.
-/
import Derived.Test.YtoofbgoeipijcaaGreatDoorVSPtP
import Derived.Test.YtoofbgoeipijcaaGreatDoorVSPqW
import Derived.Test.YtoofbgoeipijcaaGreatDoorVB45
namespace Go.Proofs.YtoofbgoeipijcaaGreatDoor
set_option maxRecDepth 100000
set_option maxHeartbeats 8000000
set_option linter.all false
open Go.RowKit Go.Shelf
attribute [local go_sem] Oper.semAt_some
theorem PgT.pgv {B:Nat} {w:World} {a b c d:Value} {p:Pg} (h:PgT B w a b c d p) (hl:LenP p):PgV (·<w.heap.size) w a b c d p:=by
 have hm:=hl.main.1
 have hf:=hl.funcs
 exact ⟨h.chans.weaken fun k hk=>hk.1.2,h.arrays.weaken fun k hk=>hk.1.2,(h.funcs.slF (by omega) fun x hx=>by have:=(hl.each x hx).2.1;omega).weaken fun k hk=>hk.2,(h.main.sl (by omega)).weaken fun k hk=>hk.2⟩
theorem few_rlen {p:Pg} (h:QP p):RLen (fewP p):=by
 have hi:∀ {l:List In},(∀ x ∈ l,QI x)->∀ y ∈ fewL l,y.op<=255/\y.dst.length<=140737488355328/\y.nm.length<=140737488355328/\∀ a ∈ y.args,a.nm.length<=140737488355328:=fun hl y hy=>by
  obtain ⟨x,hx,rfl⟩:=fewL_mem hy
  exact ⟨(hl x hx).1.2,(hl x hx).2.1,(hl x hx).2.2.1,fun a ha=>((hl x hx).2.2.2.1 a (List.mem_of_mem_take ha)).1⟩
 have hf:∀ g ∈ (fewP p).funcs,∃ f ∈ p.funcs,g=fewF f:=fun g hg=>by
  obtain ⟨f,hf,rfl⟩:=List.mem_map.1 hg
  exact ⟨f,List.mem_of_mem_take hf,rfl⟩
 have hfl:(fewP p).funcs.length<=5:=by show ((p.funcs.take 5).map fewF).length<=5;rw [List.length_map,List.length_take];omega
 have hml:∀ l:List In,(fewL l).length<=30:=fun l=>by unfold fewL;rw [List.length_map,List.length_take];omega
 have hcl:∀ (l:List Fu),(∀ g ∈ l,g.code.length<=30)->(codes l).length<=l.length*30:=fun l=>by
  induction l with
  | nil=>intro _;simp [codes]
  | cons g r ih =>
   intro hg
   have h1:=hg g (List.mem_cons_self ..)
   have h2:=ih fun x hx=>hg x (List.mem_cons_of_mem _ hx)
   have e:codes (g :: r)=g.code++codes r:=by simp [codes]
   rw [e,List.length_append,List.length_cons,Nat.succ_mul];omega
 have hal:=hcl (fewP p).funcs fun g hg=>by obtain ⟨f,hf',rfl⟩:=hf g hg;exact hml f.code
 refine ⟨by omega,?_,?_,fun s hs=>h.2.1 s (List.mem_of_mem_take hs),fun a ha=>(h.2.2.1 a (List.mem_of_mem_take ha)).1,fun g hg=>?_,fun i x hx=>?_⟩
 ·rw [List.length_append]
  have h2:(fewP p).main.length<=30:=hml p.main
  have h3:(fewP p).funcs.length*30<=5*30:=Nat.mul_le_mul_right _ hfl
  omega
 ·show (p.arrays.take 34).length<=_;rw [List.length_take];omega
 ·obtain ⟨f,hf',rfl⟩:=hf g hg
  have hq:=h.2.2.2.1 f hf'
  exact ⟨hq.1,fun s hs=>hq.2.1 s (List.mem_of_mem_take hs)⟩
 ·unfold bodyAt at hx
  split at hx
  ·rename_i hlt
   obtain ⟨f,hf',e⟩:=hf _ (List.getElem_mem hlt)
   rw [e] at hx
   exact hi (h.2.2.2.1 f hf').2.2.1 x hx
  ·exact hi h.2.2.2.2 x hx
theorem args_ofT {p:Pg} (h:QP p):ArgsOk p:=⟨fun f hf x hx=>((h.2.2.2.1 f hf).2.2.1 x hx).2.2.2.2.1,fun x hx=>(h.2.2.2.2 x hx).2.2.2.2.1⟩
theorem printTexts_any (p:Pg) (a b c d:Value) (w:World) (hp:PgV (·<w.heap.size) w a b c d p) (hq:QP p) (hE:PrE w) :
  Calls Tryz.prog 3 #[.agg #[.int .i64 p.width,a,b,c,d]] w fun e w'=>e=.returned (.bool true)/\Below w.heap.size w w':=by
 obtain ⟨pa,ca,hva⟩:=hp.1.slc
 obtain ⟨pb,cb,hvb⟩:=hp.2.1.slc
 obtain ⟨pc,cc,hvc⟩:=hp.2.2.1.slc
 obtain ⟨pd,cd,hvd⟩:=hp.2.2.2.slc
 subst hva hvb hvc hvd
 have HP:=hid hp
 obtain ⟨hok,hnum⟩:=few_ok hq
 have HA:=hid (args_ofT hq)
 have hrl:=few_rlen hq
 have hlp:=few_lenP p
 obtain ⟨q,hqq⟩:∃ q,fewP p=q:=⟨_,rfl⟩
 have HQW:=hid (show q.width=p.width from by rw [<- hqq];rfl)
 rw [hqq] at hok hnum hrl hlp
 have HQ:=hid hqq;have HE:=hid hE;have HOK:=hid hok;have HNU:=hid hnum;have HRL:=hid hrl;have HLP:=hid hlp
 clear hqq hp hq hE hok hnum hrl hlp
 go_enter Tryz.func3,Tryz.ntmps3
 go_upto_region 1 with fail
 obtain ⟨wo,hwo⟩:∃ W,w.alloc (.cells #[.int .i64 p.width,.slice pa p.chans.length ca,.slice pb p.arrays.length cb,.slice pc p.funcs.length cc,.slice pd p.main.length cd] 27)=W:=⟨_,rfl⟩
 have HB:=hid (show Below w.heap.size w wo from by rw [<- hwo];exact bA)
 have HX:=hid (show BxL 27 w.heap.size [.int .i64 p.width,.slice pa p.chans.length ca,.slice pb p.arrays.length cb,.slice pc p.funcs.length cc,.slice pd p.main.length cd] wo from by rw [<- hwo];exact BxL.new _ _ _)
 have HSO:=hid (show wo.heap.size=w.heap.size+1 from by rw [<- hwo,sA])
 rw [hwo]
 clear hwo
 obtain ⟨n0,n1,n2,n3,n4⟩:=HX.p5
 have HGO:=hid (HP.below HB.out)
 go_upto_region 2 with (go_at_call 12;(with_reducible refine (pgfew_any p _ _ _ _ wo HGO.out HA.out).mono ?_);rintro e w1 ⟨a1,b1,c1,d1,rfl,hg,hb⟩;rw [HQ.out] at hg;obtain ⟨qa,xa,h1⟩:=hg.1.slc;obtain ⟨qb,xb,h2⟩:=hg.2.1.slc;obtain ⟨qc,xc,h3⟩:=hg.2.2.1.slc;obtain ⟨qd,xd,h4⟩:=hg.2.2.2.slc;subst h1 h2 h3 h4;have HG1:=hid hg;have HB1:=hid (HB.out.trans (hb.mono HB.out.size));have HX1:=hid (HX.out.bel hb);clear hg hb n0 n1 n2 n3 n4;obtain ⟨n0,n1,n2,n3,n4⟩:=HX1.out.p5;have f0:w1.frozen? ⟨w.heap.size,0,none⟩=false:=HX1.out.fr 0;have f1:w1.frozen? ⟨w.heap.size,1,none⟩=false:=HX1.out.fr 1;have f2:w1.frozen? ⟨w.heap.size,2,none⟩=false:=HX1.out.fr 2;have f3:w1.frozen? ⟨w.heap.size,3,none⟩=false:=HX1.out.fr 3;have f4:w1.frozen? ⟨w.heap.size,4,none⟩=false:=HX1.out.fr 4)
 obtain ⟨w2,hw2⟩:∃ W,((((w1.setCell ⟨w.heap.size,0,none⟩ (.int .i64 p.width)).setCell ⟨w.heap.size,1,none⟩ (.slice qa q.chans.length xa)).setCell ⟨w.heap.size,2,none⟩ (.slice qb q.arrays.length xb)).setCell ⟨w.heap.size,3,none⟩ (.slice qc q.funcs.length xc)).setCell ⟨w.heap.size,4,none⟩ (.slice qd q.main.length xd)=W:=⟨_,rfl⟩
 have HX2:=hid (show BxL 27 w.heap.size [.int .i64 p.width,.slice qa q.chans.length xa,.slice qb q.arrays.length xb,.slice qc q.funcs.length xc,.slice qd q.main.length xd] w2 from by rw [<- hw2];exact ((((HX1.set 0 _).set 1 _).set 2 _).set 3 _).set 4 _)
 have HB2:=hid (show Below w.heap.size w w2 from by rw [<- hw2];exact ((((HB1.setCell (p:=⟨w.heap.size,0,none⟩) lrf _).setCell (p:=⟨w.heap.size,1,none⟩) lrf _).setCell (p:=⟨w.heap.size,2,none⟩) lrf _).setCell (p:=⟨w.heap.size,3,none⟩) lrf _).setCell (p:=⟨w.heap.size,4,none⟩) lrf _)
 have HG2:=hid (show PgV (·<w2.heap.size) w2 (.slice qa q.chans.length xa) (.slice qb q.arrays.length xb) (.slice qc q.funcs.length xc) (.slice qd q.main.length xd) q from HG1.keep fun k hk=>⟨by rw [<- hw2];simp only [World.size_setCell];exact hk.2,by rw [<- hw2];have hne:k ≠ w.heap.size:=(by have:=HSO.out;omega);rw [heap_ot hne,heap_ot hne,heap_ot hne,heap_ot hne,heap_ot hne]⟩)
 rw [hw2]
 clear hw2 n0 n1 n2 n3 n4 f0 f1 f2 f3 f4
 obtain ⟨n0,n1,n2,n3,n4⟩:=HX2.p5
 have HCPY:=hid (show Calls Tryz.prog 13 #[.agg #[.int .i64 p.width,.slice qa q.chans.length xa,.slice qb q.arrays.length xb,.slice qc q.funcs.length xc,.slice qd q.main.length xd]] w2 _ from by rw [<- HQW.out];exact copypg_any q _ _ _ _ w2 HG2.out HLP.out)
 rw [HQW.out] at HCPY
 go_upto_region 3 with (go_at_call 13;(with_reducible refine HCPY.out.mono ?_);rintro e w3 ⟨sa,ua,sb,ub,sc,uc,sd,ud,rfl,hg,hb⟩;have HG3:=hid (hg.pgv HLP.out);have HB3:=hid (HB2.out.trans (hb.mono HB2.out.size));have HX3:=hid (HX2.out.bel hb);have HQ3:=hid (HG2.out.below hb);clear hg hb n0 n1 n2 n3 n4)
 obtain ⟨w4,hw4⟩:∃ W,w3.alloc (.cells #[.int .i64 p.width,.slice sa q.chans.length ua,.slice sb q.arrays.length ub,.slice sc q.funcs.length uc,.slice sd q.main.length ud] 27)=W:=⟨_,rfl⟩
 have hb4:Below w3.heap.size w3 w4:=by rw [<- hw4];exact bA
 have HY4:=hid (show BxL 27 (w3.heap.size) [.int .i64 p.width,.slice sa q.chans.length ua,.slice sb q.arrays.length ub,.slice sc q.funcs.length uc,.slice sd q.main.length ud] w4 from by rw [<- hw4];exact BxL.new _ _ _)
 rw [hw4]
 have HB4:=hid (HB3.trans (hb4.mono HB3.size));have HX4:=hid (HX3.bel hb4);have HQ4:=hid (HQ3.below hb4);have HS4:=hid (HG3.below hb4)
 clear hb4 hw4
 obtain ⟨m0,m1,m2,m3,m4⟩:=HY4.p5
 obtain ⟨S,E,hSE⟩:∃ S E,printM q=(S,E):=⟨_,_,rfl⟩
 have HSE:=hid hSE
 clear hSE
 have HPR:=hid (show Calls Tryz.prog 14 #[.agg #[.int .i64 p.width,.slice sa q.chans.length ua,.slice sb q.arrays.length ub,.slice sc q.funcs.length uc,.slice sd q.main.length ud]] w4 (fun e w'=>e=.returned (.tuple #[.string ⟨S.toArray⟩,.int .i64 E])/\Below w4.heap.size w4 w') from by have h:=print_any q _ _ _ _ w4 (HE.below HB4.out) HS4.out HOK.out HNU.out;rw [HSE.out,HQW.out] at h;exact h)
 go_upto_region 4 with (go_at_call 14;(with_reducible refine HPR.out.mono ?_);rintro e w5 ⟨rfl,hb⟩;have HB5:=hid (HB4.out.trans (hb.mono HB4.out.size));have HX5:=hid (HX4.out.bel hb);have HY5:=hid (HY4.out.bel hb);have HQ5:=hid (HQ4.out.below hb);have HS5:=hid (HS4.out.below hb);clear hb m0 m1 m2 m3 m4)
 obtain ⟨n0,n1,n2,n3,n4⟩:=HX5.p5
 have HRP:=hid (show Calls Tryz.prog 15 #[.agg #[.int .i64 p.width,.slice qa q.chans.length xa,.slice qb q.arrays.length xb,.slice qc q.funcs.length xc,.slice qd q.main.length xd]] w5 (fun e w'=>e=.returned (.tuple #[.string ⟨S.toArray⟩,.int .i64 E])/\Below w5.heap.size w5 w') from by have h:=rprint_any q _ _ _ _ w5 HQ5.out HRL.out HNU.out;rw [HSE.out,HQW.out] at h;exact h)
 go_upto_region 5 with (go_at_call 15;(with_reducible refine HRP.out.mono ?_);rintro e w6 ⟨rfl,hb⟩;have HB6:=hid (HB5.out.trans (hb.mono HB5.out.size));have HX6:=hid (HX5.out.bel hb);have HY6:=hid (HY5.out.bel hb);have HQ6:=hid (HQ5.out.below hb);have HS6:=hid (HS5.out.below hb);clear hb n0 n1 n2 n3 n4)
 obtain ⟨n0,n1,n2,n3,n4⟩:=HX6.p5
 obtain ⟨m0,m1,m2,m3,m4⟩:=HY6.p5
 have HEQ:=hid (show Calls Tryz.prog 16 #[.agg #[.int .i64 p.width,.slice sa q.chans.length ua,.slice sb q.arrays.length ub,.slice sc q.funcs.length uc,.slice sd q.main.length ud],.agg #[.int .i64 p.width,.slice qa q.chans.length xa,.slice qb q.arrays.length xb,.slice qc q.funcs.length xc,.slice qd q.main.length xd]] w6 (fun e w'=>e=.returned (.bool true)/\Below w6.heap.size w6 w') from by have h:=eqprog_same q _ _ _ _ _ _ _ _ w6 HS6.out HQ6.out;rw [HQW.out] at h;exact h)
 go_wp2_with (first
  | (go_at_call 16;(with_reducible refine HEQ.out.mono ?_);rintro e w7 ⟨rfl,hb⟩;have HB7:=hid (HB6.out.trans (hb.mono HB6.out.size));have HAW:=hid (awake24_any w7 (HE.out.below HB7.out));clear hb n0 n1 n2 n3 n4 m0 m1 m2 m3 m4)
  | (go_at_call 17;(with_reducible refine HAW.out.mono ?_);rintro e w8 ⟨rfl,hb⟩;have HB8:=hid (HB7.out.trans (hb.mono HB7.out.size));clear hb))
 go_ret
 exact ⟨rfl,HB8.out⟩
theorem printInstrs_any (x:In) (v:Value) (w:World) (h8:x.kind<=255/\x.op<=255) (hd:x.dst.length<=140737488355328) (hm:x.nm.length<=140737488355328) (ha:∀ a ∈ x.args,a.nm.length<=140737488355328) (hn:∀ a ∈ x.args,a.num<18446744073709551616) (h:SlG kAg (·<w.heap.size) w v x.args) (hE:PrE w) :
  Calls Tryz.prog 19 #[.agg #[.int .u8 (x.kind:Int),.int .u8 (x.op:Int),.string ⟨x.dst.toArray⟩,.string ⟨x.nm.toArray⟩,v,.int .i64 x.pos.1,.int .i64 x.pos.2]] w fun e w'=>e=.returned (.bool true)/\Below w.heap.size w w':=by
 obtain ⟨pa,ca,rfl⟩:=h.slc
 obtain ⟨m,hm1,hm2,hmn⟩:∃ m:Nat,m<=x.args.length/\m<=34/\min (x.args.length:Int) 34=(m:Int):=⟨min x.args.length 34,Nat.min_le_left _ _,Nat.min_le_right _ _,by omega⟩
 have hcap:x.args.length<=ca:=by obtain ⟨_,_,p,c,e,h2,_⟩:=h;cases e;exact h2
 have hmc:m<=ca:=by omega
 have HS:=hid (h.cut m hm1)
 have HY:=hid (show ∀ a ∈ x.args.take m,a ∈ x.args from fun a h=>List.mem_of_mem_take h)
 have HLN:=hid (show (x.args.take m).length=m from by rw [List.length_take];omega)
 have HM:=hid hm2
 have H8:=hid h8;have HD:=hid (And.intro hd hm);have HA:=hid ha;have HN:=hid hn;have HE:=hid hE
 obtain ⟨T,hT⟩:∃ T,x.args.take m=T:=⟨_,rfl⟩
 rw [hT] at HS HY HLN
 clear h h8 hd hm ha hn hE hcap hT hm2
 go_enter Tryz.func19,Tryz.ntmps19
 go_upto_region 1 with fail
 obtain ⟨wo,hwo⟩:∃ W,w.alloc (.cells #[.int .u8 (x.kind:Int),.int .u8 (x.op:Int),.string ⟨x.dst.toArray⟩,.string ⟨x.nm.toArray⟩,.slice pa x.args.length ca,.int .i64 x.pos.1,.int .i64 x.pos.2] 41)=W:=⟨_,rfl⟩
 have HB:=hid (show Below w.heap.size w wo from by rw [<- hwo];exact bA)
 have HX:=hid (show BxL 41 w.heap.size [.int .u8 (x.kind:Int),.int .u8 (x.op:Int),.string ⟨x.dst.toArray⟩,.string ⟨x.nm.toArray⟩,.slice pa x.args.length ca,.int .i64 x.pos.1,.int .i64 x.pos.2] wo from by rw [<- hwo];exact BxL.new _ _ _)
 rw [hwo]
 clear hwo
 have n4:wo.cell? ⟨w.heap.size,4,none⟩=some (.slice pa x.args.length ca):=HX.at 4 rfl
 go_upto_region 2 with (go_at_call 62;(refine (copyargs_any T _ _ (HS.out.below HB.out) (by rw [HLN.out];have:=HM.out;omega)).mono ?_);rintro e w1 ⟨v1,rfl,hg,hb⟩;obtain ⟨p1,c1,hv1⟩:=hg.slc;rw [HLN.out] at hv1;subst hv1;have HG1:=hid hg;have HW1:=hid hb;have HX1:=hid (HX.out.bel hb);have k4:w1.cell? ⟨w.heap.size,4,none⟩=some (.slice pa x.args.length ca):=HX1.out.at 4 rfl;have f4:w1.frozen? ⟨w.heap.size,4,none⟩=false:=HX1.out.fr 4;clear hg hb)
 clear n4 hm1 hmn hmc
 have hlt4:∀ j,(Value.slice p1 m c1).ownBlock=some j->j ≠ w.heap.size:=fun j hj=>by have h1:=(HG1.lt j hj).1;have h2:=HX.lt;omega
 obtain ⟨w2,hw2⟩:∃ W,w1.setCell ⟨w.heap.size,4,none⟩ (.slice p1 m c1)=W:=⟨_,rfl⟩
 have HX2:=hid (show BxL 41 w.heap.size [.int .u8 (x.kind:Int),.int .u8 (x.op:Int),.string ⟨x.dst.toArray⟩,.string ⟨x.nm.toArray⟩,.slice p1 m c1,.int .i64 x.pos.1,.int .i64 x.pos.2] w2 from by rw [<- hw2];exact HX1.set 4 _)
 have HG2:=hid (show SlG kAg (·<w2.heap.size) w2 (.slice p1 m c1) T from by
  rw [<- hw2]
  exact (ag_keepOwn HG1.out (by rw [World.size_setCell];exact Nat.le_refl _) fun j hj=>heap_ot (hlt4 j hj) _).sl (by rw [HLN.out];have:=HM.out;omega))
 have HB2:=hid (show Below w.heap.size w w2 from by rw [<- hw2];exact (HB.trans (HW1.mono HB.size)).setCell (p:=⟨w.heap.size,4,none⟩) lrf _)
 rw [hw2]
 clear hw2 k4 f4 hlt4
 have HYI:=hid (show (⟨x.kind,x.op,x.dst,x.nm,T,x.pos⟩:In).args=T from rfl)
 obtain ⟨SE,hSE⟩:∃ r,instrM ⟨x.kind,x.op,x.dst,x.nm,T,x.pos⟩=r:=⟨_,rfl⟩
 obtain ⟨S,E⟩:=SE
 have HSE:=hid hSE
 clear hSE
 obtain ⟨n0,n1,n2,n3,n4,n5,n6⟩:=HX2.p7
 go_upto_region 3 with (go_at_call 18;(refine (copyinstr_any ⟨x.kind,x.op,x.dst,x.nm,T,x.pos⟩ _ _ HG2.out (by show T.length<=5864062014805;rw [HLN.out];have:=HM.out;omega)).mono ?_);rintro e w3 ⟨v2,rfl,hg,hb⟩;obtain ⟨p2,c2,hv2⟩:=hg.slc;replace hv2:v2=.slice p2 T.length c2:=hv2;rw [HLN.out] at hv2;subst hv2;have HX3:=hid (HX2.out.bel hb);have HG3:=hid (show SlG kAg (·<w3.heap.size) w3 (.slice p2 m c2) T from hg.sl (by show T.length<=_;rw [HLN.out];have:=HM.out;omega));have HB3:=hid (HB2.out.trans (hb.mono HB2.out.size));have HG2:=hid (HG2.out.below hb);clear hg hb)
 clear n0 n1 n2 n3 n4 n5 n6
 obtain ⟨w4,hw4⟩:∃ W,w3.alloc (.cells #[.int .u8 (x.kind:Int),.int .u8 (x.op:Int),.string ⟨x.dst.toArray⟩,.string ⟨x.nm.toArray⟩,.slice p2 m c2,.int .i64 x.pos.1,.int .i64 x.pos.2] 41)=W:=⟨_,rfl⟩
 have hb4:Below w3.heap.size w3 w4:=by rw [<- hw4];exact bA
 have HY4:=hid (show BxL 41 w3.heap.size [.int .u8 (x.kind:Int),.int .u8 (x.op:Int),.string ⟨x.dst.toArray⟩,.string ⟨x.nm.toArray⟩,.slice p2 m c2,.int .i64 x.pos.1,.int .i64 x.pos.2] w4 from by rw [<- hw4];exact BxL.new _ _ _)
 have HX4:=hid (HX3.bel hb4)
 have HB4:=hid (HB3.trans (hb4.mono HB3.size))
 have HG4:=hid (HG2.below hb4)
 have HK4:=hid (HG3.below hb4)
 rw [hw4]
 clear hw4 hb4
 obtain ⟨n0,n1,n2,n3,n4,n5,n6⟩:=HY4.p7
 have HNN:=hid (show ∀ a ∈ T,a.num<18446744073709551616 from fun a h=>HN.out a (HY.out a h))
 have HAA:=hid (show ∀ a ∈ T,a.nm.length<=140737488355328 from fun a h=>HA.out a (HY.out a h))
 go_upto_region 4 with (go_at_call 61;(refine (instr_any ⟨x.kind,x.op,x.dst,x.nm,T,x.pos⟩ _ _ H8.out (by show T.length<=100000;rw [HLN.out];have:=HM.out;omega) HNN.out HK4.out (HE.out.below HB4.out)).mono ?_);rintro e w5 ⟨rfl,hb⟩;rw [HSE.out];have HX5:=hid (HX4.out.bel hb);have HY5:=hid (HY4.out.bel hb);have HB5:=hid (HB4.out.trans (hb.mono HB4.out.size));have HG5:=hid (HG4.out.below hb);have HK5:=hid (HK4.out.below hb);clear hb)
 clear n0 n1 n2 n3 n4 n5 n6
 obtain ⟨n0,n1,n2,n3,n4,n5,n6⟩:=HX5.p7
 go_upto_region 5 with (go_at_call 63;(refine (rinstr_any ⟨x.kind,x.op,x.dst,x.nm,T,x.pos⟩ _ _ H8.out.2 HD.out.1 HD.out.2 HAA.out HNN.out HG5.out).mono ?_);rintro e w6 ⟨rfl,hb⟩;rw [HSE.out];have HX6:=hid (HX5.out.bel hb);have HY6:=hid (HY5.out.bel hb);have HB6:=hid (HB5.out.trans (hb.mono HB5.out.size));have HG6:=hid (HG5.out.below hb);have HK6:=hid (HK5.out.below hb);clear hb)
 clear n0 n1 n2 n3 n4 n5 n6
 obtain ⟨n0,n1,n2,n3,n4,n5,n6⟩:=HX6.p7
 obtain ⟨m0,m1,m2,m3,m4,m5,m6⟩:=HY6.p7
 go_wp2_with (first
  | (go_at_call 64;(refine (eqinstr_same ⟨x.kind,x.op,x.dst,x.nm,T,x.pos⟩ _ _ _ HK6.out HG6.out).mono ?_);rintro e w7 ⟨rfl,hb⟩;have HB7:=hid (HB6.out.trans (hb.mono HB6.out.size));clear hb n0 n1 n2 n3 n4 n5 n6 m0 m1 m2 m3 m4 m5 m6)
  | (go_at_call 17;(refine (awake24_any _ (HE.out.below HB7.out)).mono ?_);rintro e w8 ⟨rfl,hb⟩;have HB8:=hid (HB7.out.trans (hb.mono HB7.out.size));clear hb))
 go_ret
 exact ⟨rfl,HB8.out⟩
theorem printInstrs_law (x:In) (v:Value) (w:World) (hs:SlG kAg (·<w.heap.size) w v x.args) (hq:QI x) (hE:PrE w) :
  Calls Tryz.prog 19 #[.agg #[.int .u8 (x.kind:Int),.int .u8 (x.op:Int),.string ⟨x.dst.toArray⟩,.string ⟨x.nm.toArray⟩,v,.int .i64 x.pos.1,.int .i64 x.pos.2]] w fun e w'=>e=.returned (.bool true)/\Below w.heap.size w w' :=
 printInstrs_any x v w hq.1 hq.2.1 hq.2.2.1 (fun a h=>(hq.2.2.2.1 a h).1) (fun a h=>(hq.2.2.2.1 a h).2) hs hE
end Go.Proofs.YtoofbgoeipijcaaGreatDoor
