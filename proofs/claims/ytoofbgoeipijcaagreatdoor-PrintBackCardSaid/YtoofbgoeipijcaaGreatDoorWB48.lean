/-
 A part.
-/
import Derived.Test.YtoofbgoeipijcaaGreatDoorWB47
import Derived.Test.YtoofbgoeipijcaaGreatDoorWSPnQ
import Derived.Test.YtoofbgoeipijcaaGreatDoorWSPeS
import Derived.Test.YtoofbgoeipijcaaGreatDoorWSPqW
import Derived.JoinedOf
import Derived.KernelRfl
import Derived.HandedShaped
import Derived.LaidMore
import Derived.Stop.Joined
import Derived.Stop.LaidErr
import Derived.Deep.Strs
import Derived.MakeChecks
namespace Go.Proofs.YtoofbgoeipijcaaGreatDoor
set_option linter.all false
open Go.RowKit Go.Shelf
attribute [local go_sem] Oper.semAt_some
theorem fewL_mem {l:List In} {y:In} (h:y ∈ fewL l):∃ x ∈ l,y=fewI x:=by
 obtain ⟨x,hx,rfl⟩:=List.mem_map.1 h
 exact ⟨x,List.mem_of_mem_take hx,rfl⟩
theorem few_ok {p:Pg} (h:QP p):PgOk (fewP p)/\NumP (fewP p):=by
 have hi:∀ {l:List In},(∀ x ∈ l,QI x)->∀ y ∈ fewL l,(y.kind<=255/\y.op<=255)/\NumI y:=fun hl y hy=>by
  obtain ⟨x,hx,rfl⟩:=fewL_mem hy
  refine ⟨(hl x hx).1,fun a ha=>?_⟩
  have:=((hl x hx).2.2.2.1 a (List.mem_of_mem_take ha)).2
  show a.num<=18446744073709551615
  omega
 have hf:∀ g ∈ (fewP p).funcs,∃ f ∈ p.funcs,g=fewF f:=fun g hg=>by
  obtain ⟨f,hf,rfl⟩:=List.mem_map.1 hg
  exact ⟨f,List.mem_of_mem_take hf,rfl⟩
 refine ⟨⟨fun g hg x hx=>?_,fun x hx=>(hi h.2.2.2.2 x hx).1⟩,⟨fun g hg x hx=>?_,fun x hx=>(hi h.2.2.2.2 x hx).2⟩⟩
 ·obtain ⟨f,hf',rfl⟩:=hf g hg
  exact (hi (h.2.2.2.1 f hf').2.2.1 x hx).1
 ·obtain ⟨f,hf',rfl⟩:=hf g hg
  exact (hi (h.2.2.2.1 f hf').2.2.1 x hx).2
theorem args_ofB {p:Pg} (h:QP p):ArgsOk p:=⟨fun f hf x hx=>((h.2.2.2.1 f hf).2.2.1 x hx).2.2.2.2.1,fun x hx=>(h.2.2.2.2 x hx).2.2.2.2.1⟩
theorem parse_w (s:Bs) (m:Int) (r:Pg) (h:parseE s=.ok r) (w:World) (hE:PrE w) (hm:w.cell? ⟨0,0,none⟩=some (.int .i64 m)) :
  Calls Tryz.prog 28 #[.string ⟨s.toArray⟩] w fun e w'=>(∃ ra rb rc rd ya yb yc yd,e=.returned (.tuple #[.agg #[.int .i64 r.width,.slice ra r.chans.length ya,.slice rb r.arrays.length yb,.slice rc r.funcs.length yc,.slice rd r.main.length yd],.agg #[.int .i64 0,.int .i64 0],.int .i64 0])/\PgV (·<w'.heap.size) w' (.slice ra r.chans.length ya) (.slice rb r.arrays.length yb) (.slice rc r.funcs.length yc) (.slice rd r.main.length yd) r)/\Below w.heap.size w w':=by
 refine (parse_any s m w hE.toPrE0 hm).mono ?_
 rintro e w' ⟨hb,a,b,c,d,he,hp⟩
 rw [parse_read h] at he hp
 obtain ⟨ra,ya,h1⟩:=hp.1.slc
 obtain ⟨rb,yb,h2⟩:=hp.2.1.slc
 obtain ⟨rc,yc,h3⟩:=hp.2.2.1.slc
 obtain ⟨rd,yd,h4⟩:=hp.2.2.2.slc
 subst h1 h2 h3 h4
 exact ⟨⟨ra,rb,rc,rd,ya,yb,yc,yd,he,hp⟩,hb⟩
set_option maxRecDepth 100000 in
set_option maxHeartbeats 8000000 in
theorem printBack_any (p:Pg) (a b c d:Value) (m:Int) (w:World) (hp:PgV (·<w.heap.size) w a b c d p) (hq:QP p) (hE:PrE w) (hm:w.cell? ⟨0,0,none⟩=some (.int .i64 m)) :
  Calls Tryz.prog 10 #[.agg #[.int .i64 p.width,a,b,c,d]] w fun e w'=>e=.returned (.bool true)/\Below w.heap.size w w':=by
 obtain ⟨pa,ca,hva⟩:=hp.1.slc
 obtain ⟨pb,cb,hvb⟩:=hp.2.1.slc
 obtain ⟨pc,cc,hvc⟩:=hp.2.2.1.slc
 obtain ⟨pd,cd,hvd⟩:=hp.2.2.2.slc
 subst hva hvb hvc hvd
 have HP:=hid hp
 obtain ⟨hok,hnum⟩:=few_ok hq
 have HA:=hid (args_ofB hq)
 have HM:=hid hm
 obtain ⟨q,hqq⟩:∃ q,fewP p=q:=⟨_,rfl⟩
 have HQW:=hid (show q.width=p.width from by rw [<- hqq];rfl)
 rw [hqq] at hok hnum
 have HQ:=hid hqq;have HE:=hid hE;have HOK:=hid hok;have HNU:=hid hnum
 clear hqq hp hq hE hok hnum hm
 go_enter Tryz.func10,Tryz.ntmps10
 go_upto_region 1 with fail
 obtain ⟨wo,hwo⟩:∃ W,w.alloc (.cells #[.int .i64 p.width,.slice pa p.chans.length ca,.slice pb p.arrays.length cb,.slice pc p.funcs.length cc,.slice pd p.main.length cd] 27)=W:=⟨_,rfl⟩
 have HB:=hid (show Below w.heap.size w wo from by rw [<- hwo];exact bA)
 have HX:=hid (show BxL 27 w.heap.size [.int .i64 p.width,.slice pa p.chans.length ca,.slice pb p.arrays.length cb,.slice pc p.funcs.length cc,.slice pd p.main.length cd] wo from by rw [<- hwo];exact BxL.new _ _ _)
 have HSO:=hid (show wo.heap.size=w.heap.size+1 from by rw [<- hwo,sA])
 rw [hwo]
 clear hwo
 obtain ⟨n0,n1,n2,n3,n4⟩:=HX.p5
 have HGO:=hid (HP.below HB.out)
 go_upto_region 2 with (go_at_call 12;(with_reducible refine (pgfew_any p _ _ _ _ wo HGO.out HA.out).mono ?_);rintro e w1 ⟨a1,b1,c1,d1,rfl,hg,hb⟩;rw [HQ.out] at hg;obtain ⟨qa,xa,h1⟩:=hg.1.slc;obtain ⟨qb,xb,h2⟩:=hg.2.1.slc;obtain ⟨qc,xc,h3⟩:=hg.2.2.1.slc;obtain ⟨qd,xd,h4⟩:=hg.2.2.2.slc;subst h1 h2 h3 h4;have HG1:=hid hg;have HB1:=hid (HB.out.trans (hb.mono HB.out.size));have HX1:=hid (HX.out.bel hb);clear hg hb n0 n1 n2 n3 n4;obtain ⟨n0,n1,n2,n3,n4⟩:=HX1.out.p5;have f0:w1.frozen? ⟨w.heap.size,0,none⟩=false:=HX1.out.fr 0;have f1:w1.frozen? ⟨w.heap.size,1,none⟩=false:=HX1.out.fr 1;have f2:w1.frozen? ⟨w.heap.size,2,none⟩=false:=HX1.out.fr 2;have f3:w1.frozen? ⟨w.heap.size,3,none⟩=false:=HX1.out.fr 3;have f4:w1.frozen? ⟨w.heap.size,4,none⟩=false:=HX1.out.fr 4)
 obtain ⟨w2,hw2⟩:∃ W,((((w1.setCell ⟨w.heap.size,0,none⟩ (.int .i64 p.width)).setCell ⟨w.heap.size,1,none⟩ (.slice qa q.chans.length xa)).setCell ⟨w.heap.size,2,none⟩ (.slice qb q.arrays.length xb)).setCell ⟨w.heap.size,3,none⟩ (.slice qc q.funcs.length xc)).setCell ⟨w.heap.size,4,none⟩ (.slice qd q.main.length xd)=W:=⟨_,rfl⟩
 have HX2:=hid (show BxL 27 w.heap.size [.int .i64 p.width,.slice qa q.chans.length xa,.slice qb q.arrays.length xb,.slice qc q.funcs.length xc,.slice qd q.main.length xd] w2 from by rw [<- hw2];exact ((((HX1.set 0 _).set 1 _).set 2 _).set 3 _).set 4 _)
 have HB2:=hid (show Below w.heap.size w w2 from by rw [<- hw2];exact ((((HB1.setCell (p:=⟨w.heap.size,0,none⟩) lrf _).setCell (p:=⟨w.heap.size,1,none⟩) lrf _).setCell (p:=⟨w.heap.size,2,none⟩) lrf _).setCell (p:=⟨w.heap.size,3,none⟩) lrf _).setCell (p:=⟨w.heap.size,4,none⟩) lrf _)
 have HG2:=hid (show PgV (·<w2.heap.size) w2 (.slice qa q.chans.length xa) (.slice qb q.arrays.length xb) (.slice qc q.funcs.length xc) (.slice qd q.main.length xd) q from HG1.keep fun k hk=>⟨by rw [<- hw2];simp only [World.size_setCell];exact hk.2,by rw [<- hw2];have hne:k ≠ w.heap.size:=(by have:=HSO.out;omega);rw [heap_ot hne,heap_ot hne,heap_ot hne,heap_ot hne,heap_ot hne]⟩)
 rw [hw2]
 clear hw2 n0 n1 n2 n3 n4 f0 f1 f2 f3 f4
 obtain ⟨n0,n1,n2,n3,n4⟩:=HX2.p5
 obtain ⟨S,E,hSE⟩:∃ S E,printM q=(S,E):=⟨_,_,rfl⟩
 have HSE:=hid hSE
 clear hSE
 have HPR:=hid (show Calls Tryz.prog 14 #[.agg #[.int .i64 p.width,.slice qa q.chans.length xa,.slice qb q.arrays.length xb,.slice qc q.funcs.length xc,.slice qd q.main.length xd]] w2 (fun e w'=>e=.returned (.tuple #[.string ⟨S.toArray⟩,.int .i64 E])/\Below w2.heap.size w2 w') from by have h:=print_any q _ _ _ _ w2 (HE.below HB2.out) HG2.out HOK.out HNU.out;rw [HSE.out,HQW.out] at h;exact h)
 go_upto_region 3 with (go_at_call 14;(with_reducible refine HPR.out.mono ?_);rintro e w3 ⟨rfl,hb⟩;have HB3:=hid (HB2.out.trans (hb.mono HB2.out.size));have HX3:=hid (HX2.out.bel hb);have HG3:=hid (HG2.out.below hb);clear hb n0 n1 n2 n3 n4)
 obtain ⟨n0,n1,n2,n3,n4⟩:=HX3.p5
 obtain ⟨⟨⟨x0,x1⟩,er⟩,hck⟩:∃ r,checkM q=r:=⟨_,rfl⟩
 have HCK:=hid hck
 clear hck
 have HCC:=hid (show Calls Tryz.prog 34 #[.agg #[.int .i64 p.width,.slice qa q.chans.length xa,.slice qb q.arrays.length xb,.slice qc q.funcs.length xc,.slice qd q.main.length xd]] w3 (fun e w'=>e=.returned (.tuple #[.agg #[.int .i64 x0,.int .i64 x1],.int .i64 er])/\Below w3.heap.size w3 w') from by have h:=check_any q _ _ _ _ w3 (HE.below HB3.out) HG3.out HOK.out;rw [HCK.out,HQW.out] at h;exact h)
 go_upto_region 4 with (go_at_call 34;(with_reducible refine HCC.out.mono ?_);rintro e w4 ⟨rfl,hb⟩;have HB4:=hid (HB3.out.trans (hb.mono HB3.out.size));have HX4:=hid (HX3.out.bel hb);have HG4:=hid (HG3.out.below hb);clear hb n0 n1 n2 n3 n4)
 obtain ⟨w5,hw5⟩:∃ W,w4.alloc (.cells #[.int .i64 x0,.int .i64 x1] 39)=W:=⟨_,rfl⟩
 have hb5:Below w4.heap.size w4 w5:=by rw [<- hw5];exact bA
 rw [hw5]
 have HB5:=hid (HB4.trans (hb5.mono HB4.size));have HX5:=hid (HX4.bel hb5);have HG5:=hid (HG4.below hb5)
 clear hb5 hw5
 by_cases h0:er=0
 ·subst h0
  by_cases hl:65536<(textT (linesT q)).length
  ·have hpm:printM q=([],5):=by unfold printM;rw [HCK.out,if_neg (by simp),if_pos hl]
   rw [HSE.out] at hpm
   injection hpm with h1 h2
   subst h1 h2
   clear hl
   go_wp2_with (go_at_call 17;(refine (awake24_any _ (HE.out.below HB5.out)).mono ?_);rintro e w9 ⟨rfl,hb⟩;have HB9:=hid (HB5.out.trans (hb.mono HB5.out.size));clear hb)
   go_ret
   exact ⟨rfl,HB9.out⟩
  ·have hpm:printM q=(textT (linesT q),0):=by unfold printM;rw [HCK.out,if_neg (by simp),if_neg hl]
   have hc0:(checkM q).2=0:=by rw [HCK.out]
   obtain ⟨r,hr,hbr⟩:=parse_print q hc0 HNU.out (by omega)
   have hrc:=parse_cd hr
   have hpr:printM r=printM q:=print_bare hbr HNU.out hpm |>.trans hpm.symm
   rw [HSE.out] at hpm hpr
   injection hpm with h1 h2
   rw [<- h1] at hr
   have HR:=hid hr;have HBR:=hid hbr;have HRC:=hid hrc;have HRP:=hid hpr
   subst h2
   clear hl hc0 hr hbr hrc hpr h1
   have HPA:=hid (parse_w S m r HR.out w5 (HE.below HB5.out) (cB HB5 HM.out))
   go_upto_region 8 with fail
   go_upto_region 9 with (go_at_call 28;(with_reducible refine HPA.out.mono ?_);rintro e w6 ⟨⟨ra,rb,rc,rd,ya,yb,yc,yd,rfl,hr⟩,hb⟩;have HB6:=hid (HB5.out.trans (hb.mono HB5.out.size));have HX6:=hid (HX5.out.bel hb);have HG6:=hid (HG5.out.below hb);have HR6:=hid hr;clear hb hr)
   obtain ⟨w7,hw7⟩:∃ W,(w6.alloc (.cells #[.int .i64 r.width,.slice ra r.chans.length ya,.slice rb r.arrays.length yb,.slice rc r.funcs.length yc,.slice rd r.main.length yd] 27)).alloc (.cells #[.int .i64 0,.int .i64 0] 39)=W:=⟨_,rfl⟩
   have hb7:Below w6.heap.size w6 w7:=by rw [<- hw7];exact (bA).alloc (by rw [sA];omega) _
   have HY7:=hid (show BxL 27 (w6.heap.size) [.int .i64 r.width,.slice ra r.chans.length ya,.slice rb r.arrays.length yb,.slice rc r.funcs.length yc,.slice rd r.main.length yd] w7 from by rw [<- hw7];exact (BxL.new _ _ _).al _)
   rw [hw7]
   have HB7:=hid (HB6.trans (hb7.mono HB6.size));have HX7:=hid (HX6.bel hb7);have HG7:=hid (HG6.below hb7);have HR7:=hid (HR6.below hb7)
   clear hb7 hw7
   obtain ⟨m0,m1,m2,m3,m4⟩:=HY7.p5
   have HPS:=hid (show Calls Tryz.prog 14 #[.agg #[.int .i64 r.width,.slice ra r.chans.length ya,.slice rb r.arrays.length yb,.slice rc r.funcs.length yc,.slice rd r.main.length yd]] w7 (fun e w'=>e=.returned (.tuple #[.string ⟨S.toArray⟩,.int .i64 0])/\Below w7.heap.size w7 w') from by have h:=print_any r _ _ _ _ w7 (HE.below HB7.out) HR7.out HRC.1.pg HRC.1.num;rw [HRP.out] at h;exact h)
   go_upto_region 10 with (go_at_call 14;(with_reducible refine HPS.out.mono ?_);rintro e w8 ⟨rfl,hb⟩;have HB8:=hid (HB7.out.trans (hb.mono HB7.out.size));have HX8:=hid (HX7.out.bel hb);have HY8:=hid (HY7.out.bel hb);have HG8:=hid (HG7.out.below hb);have HR8:=hid (HR7.out.below hb);clear hb m0 m1 m2 m3 m4)
   obtain ⟨n0,n1,n2,n3,n4⟩:=HX8.p5
   obtain ⟨m0,m1,m2,m3,m4⟩:=HY8.p5
   have HEQ:=hid (show Calls Tryz.prog 32 #[.agg #[.int .i64 p.width,.slice qa q.chans.length xa,.slice qb q.arrays.length xb,.slice qc q.funcs.length xc,.slice qd q.main.length xd],.agg #[.int .i64 r.width,.slice ra r.chans.length ya,.slice rb r.arrays.length yb,.slice rc r.funcs.length yc,.slice rd r.main.length yd]] w8 (fun e w'=>e=.returned (.bool true)/\Below w8.heap.size w8 w') from by have h:=equal_same q r _ _ _ _ _ _ _ _ w8 HG8.out HR8.out HBR.symm;rw [HQW.out] at h;exact h)
   go_wp2_with (first
    | (go_at_call 32;(with_reducible refine HEQ.out.mono ?_);rintro e wb ⟨rfl,hb⟩;have HBb:=hid (HB8.out.trans (hb.mono HB8.out.size));clear hb n0 n1 n2 n3 n4 m0 m1 m2 m3 m4)
    | (go_at_call 17;(refine (awake24_any _ (HE.out.below HBb.out)).mono ?_);rintro e w9 ⟨rfl,hb⟩;have HB9:=hid (HBb.out.trans (hb.mono HBb.out.size));clear hb))
   go_ret
   exact ⟨rfl,HB9.out⟩
 ·have hpm:printM q=([],er):=by unfold printM;rw [HCK.out,if_pos h0]
  rw [HSE.out] at hpm
  injection hpm with h1 h2
  subst h1 h2
  have g:(E == 0)=false:=by rw [beq_eq_false_iff_ne];exact h0
  clear h0
  go_wp2_with (go_at_call 17;(refine (awake24_any _ (HE.out.below HB5.out)).mono ?_);rintro e w9 ⟨rfl,hb⟩;have HB9:=hid (HB5.out.trans (hb.mono HB5.out.size));clear hb)
  go_ret
  exact ⟨rfl,HB9.out⟩
theorem printBack_law (p:Pg) (a b c d:Value) (w:World) (hp:PgV (·<w.heap.size) w a b c d p) (hq:QP p) (hE:PrE w) (hm:∃ m,w.cell? ⟨0,0,none⟩=some (.int .i64 m)) :
  Calls Tryz.prog 10 #[.agg #[.int .i64 p.width,a,b,c,d]] w fun e w'=>e=.returned (.bool true)/\Below w.heap.size w w':=by
 obtain ⟨m,hm⟩:=hm
 exact printBack_any p a b c d m w hp hq hE hm
set_option maxRecDepth 100000
theorem factA:(Tryz.pinned.checked.prog.mayEnter)=true:=by kernel_rfl
set_option maxRecDepth 100000
theorem factB:((Rows.printTextsRow.lifted == Tryz.pinned.checked.prog.liftsFinal))=true:=by kernel_rfl
set_option maxRecDepth 100000
theorem factC:((Tryz.pinned.checked.prog.make == some Rows.printTextsRow.make))=true:=by kernel_rfl
set_option maxRecDepth 100000
theorem factLaid:(laidOutB Tryz.pinned.checked.prog)=true:=by kernel_rfl
theorem factMaps:(mapsRowed Tryz.pinned.checked.prog)=true:=by kernel_rfl
theorem factStops:((Tryz.pinned.checked.prog.stops == []))=true:=by kernel_rfl
theorem factKnobs:((Tryz.pinned.checked.prog.stopKnobs == []))=true:=by kernel_rfl
theorem factKeys:((Rows.printTextsRow.plainKeys == Tryz.pinned.checked.prog.plainKeys))=true:=by kernel_rfl
theorem factHeard:(Tryz.pinned.checked.prog.stopsHeard)=true:=by kernel_rfl
theorem andT {a b:Bool} (h:a=true) (k:b=true):(a && b)=true:=by rw [h,k];rfl
open Go.ChangeShapes Go.WideShapes Go.ChangeAt Go.WideMaps Go.WideElems Go.RowKit
variable {H:Type} {enc:TypeId × Value->H}
theorem handed_and_shaped {a:Assume} {C:Checked} {os:Os} {f:FuncId} {fn:Func} {s:ChangeSpec} {conds:List PathCond} {apart fresh handsOn again:Bool} {X:World->Array Value->Prop}
  (hX:∀ (w w':World) (args:Array Value),w.heap=w'.heap->X w args->X w' args)
  (own:ownKnob C.prog.godebug=none) (started:os.Started) (noInit:C.prog.inits.idxOf? f=none) (hfn:C.prog.funcs[f]?=some fn)
  (witness:∃ (w:World) (tape:Tape) (i:Input),w.os=os/\(w.forCall tape i).Shaped C.prog/\i.vars=[]/\Input.okWide C.prog (w.forCall tape i) .any w.heap.size f i /\
   ((s.pre enc C.prog fn conds apart (w.forCall tape i).memory i.args/\X (w.forCall tape i).memory i.args)/\sizedMet enc C.prog fn (OpenSpec.ofChange s) apart (w.forCall tape i).memory i.args)/\a.holds C.prog (lone (Frame.enter C.prog f i.args .normal) [] (w.forCall tape i)))
  (contract:∀ (W:World) (base:Nat) (args:Array Value) (ds gs:List (DataW H)) (before:List MemPlace),
   (∀ (j:Nat) t v,fn.params[j]?=some t->args[j]?=some v->Value.okWide C.prog W .any base t v) ->
   DataW.Whole enc C.prog fn.params.toList s.vars apart W args.toList ds gs before ->
   conds.all (PathCond.test C.prog ⟨fn.params.toList,ds,s.plain.varTypes C.prog,gs⟩)=true ->
   (DataW.weightsEach C.prog (fn.params.toList++s.plain.varTypes C.prog) (ds++gs)).all (·<=reachBytes)=true->X W args ->
   W.ShapedOpen C.prog ->
   a.holds C.prog (lone (Frame.enter C.prog f args .normal) [] W) ->
   Calls C.prog f args W fun e W'=>∃ v,e=.returned v/\s.post enc C.prog fn apart fresh handsOn again W args v W') :
  ReturnsInHanded a C os f .any (fun w args=>(s.pre enc C.prog fn conds apart w args/\X w args)/\sizedMet enc C.prog fn (OpenSpec.ofChange s) apart w args) (s.post enc C.prog fn apart fresh handsOn again):=by
 refine returnsInHanded_of_calls own started noInit witness ?_
 intro w tape i _ hsh _ hok hpre hholds
 obtain ⟨_,_,_,fn',hfn',_,_,_,_,hval⟩:=hok
 have e:fn'=fn:=Option.some.inj (hfn'.symm.trans hfn)
 subst e
 obtain ⟨⟨⟨ds,gs,before,hw,hc⟩,hx⟩,hz⟩:=hpre
 have hw':=DataW.Whole.of_heap (w':=w.forCall tape i) (by rfl) hw
 refine (contract (w.forCall tape i) w.heap.size i.args ds gs before hval hw' hc (hz.weights hw) (hX _ _ _ (by rfl) hx) hsh hholds).mono fun e W' ⟨v,he,hp⟩=>?_
 subst he
 exact ChangeSpec.post_blind hp
open Go.ChangeShapes Go.WideShapes Go.ChangeAt Go.WideMaps Go.WideElems Go.RowKit
abbrev laidPg:List (String × DataW Unit):=[("math/bits.deBruijn32tab",Rows.laid_math_bits_deBruijn32tab),("math/bits.deBruijn64tab",Rows.laid_math_bits_deBruijn64tab),("internal/strconv.uint64pow10",Rows.laid_internal_strconv_uint64pow10),("weephole/prog.keywords",Rows.laid_weephole_prog_keywords),("weephole/prog.forms",Rows.laid_weephole_prog_forms)]
theorem door_met (os:Os) (args:Array Value):laidMetH Tryz.prog laidPg ((World.doorLaid Tryz.prog 400 os).forCall (fun _ _=>0) ⟨#[],args,[]⟩).memory :=
 laidMetH_of_parts3 (fuel:=8) (laidMet_of_run' 8 (by kernel_rfl) (by kernel_rfl)) (by kernel_rfl) (by kernel_rfl)
def strsD (zs:List Bs):DataW Unit := .slice (zs.map fun z => .lit (.string z)) []
def formsD (fs:List (Bool × Bool × Int)):DataW Unit := .agg (fs.map fun f => .agg [.lit (.bool f.1),.lit (.bool f.2.1),.lit (.int .i64 f.2.2)])
theorem kw_of {W:World} {rest:List (String × DataW Unit)} (h:laidMet Tryz.prog (("weephole/prog.keywords",strsD kwL) :: rest) W) :
  ∃ b off c,W.cell? ⟨3,0,none⟩=some (.slice (some ⟨b,off,none⟩) 16 c)/\∀ j,j<16->W.cell? ⟨b,off+j,none⟩=some (.string ⟨(kwL.getD j []).toArray⟩):=by
 obtain ⟨ps,⟨g',t',cs,fuel,p,q,hg',ht',hvar,hd,_,_⟩,_⟩:=h
 have hg:Tryz.prog.globalNamed "weephole/prog.keywords"=some 3:=by kernel_rfl
 have hty:(Tryz.prog.globals[3]?).map (·.type)=some 22:=by kernel_rfl
 obtain rfl:=Option.some.inj (hg.symm.trans hg')
 obtain rfl:=Option.some.inj (hty.symm.trans ht')
 rcases Deep.open_slice1 Tryz.underlying22 (by kernel_rfl) hd with ⟨_,hx⟩ | ⟨a,len,cap,m,n,V,D,Pl,hcs,_,hl,_,hmm,hx,hV⟩
 ·cases hx
 ·have h1:kwL.map (fun z=>(DataW.lit (.string z):DataW Unit))=(List.range len).map D:=by
   have:=congrArg Prod.fst hx
   simp only [strsD,DataW.slice.injEq] at this
   exact this.1
  have hlen:len=16:=by
   have:=congrArg List.length h1
   simpa [kwL] using this.symm
  subst hlen
  have hm16:16<=m:=by rw [hmm];split <;> omega
  have key:∀ j,j<16->W.cell? (a.add j)=some (.string ⟨(kwL.getD j []).toArray⟩):=fun j hj=>by
   obtain ⟨h2,h3⟩:=hV j (by omega)
   obtain ⟨s,e1,e2,_⟩:=DataW.trod_string Tryz.underlying9 h3
   simp only [List.cons.injEq,and_true] at e1
   have e3:D j=.lit (.string s.data.toList):=congrArg Prod.fst e2
   have h4:=congrArg (fun l=>l[j]?) h1
   have hjk:j<kwL.length:=by simpa [kwL] using hj
   simp only [List.getElem?_map,List.getElem?_range hj,List.getElem?_eq_getElem hjk,Option.map_some,Option.some.injEq,e3,DataW.lit.injEq,Lit.string.injEq] at h4
   rw [h2,e1,List.getD_eq_getElem?_getD,List.getElem?_eq_getElem hjk,Option.getD_some,h4]
  obtain ⟨b,off,spot⟩:=a
  have hspot:spot=none:=by simpa [Addr.add] using World.cell?_spot (key 0 (by omega))
  subst hspot
  have hadd:∀ j,(⟨b,off,none⟩:Addr).add j=⟨b,off+j,none⟩:=fun j=>by unfold Addr.add;split <;> simp_all
  refine ⟨b,off,cap,?_,fun j hj=>by rw [<- hadd];exact key j hj⟩
  have h5:=World.var?_cell hg hvar 0
  rw [h5]
  have h6:=congrArg (fun l=>l[0]?) hcs
  simpa using h6
theorem fo_of {W:World} {rest:List (String × DataW Unit)} (h:laidMet Tryz.prog (("weephole/prog.forms",formsD fieldsL) :: rest) W) :
  ∀ k,k<13->W.cell? ⟨4,3*k,none⟩=some (.bool (fieldsL.getD k (false,false,0)).1)/\W.cell? ⟨4,3*k+1,none⟩=some (.bool (fieldsL.getD k (false,false,0)).2.1)/\W.cell? ⟨4,3*k+2,none⟩=some (.int .i64 (fieldsL.getD k (false,false,0)).2.2):=by
 obtain ⟨ps,⟨g',t',cs,fuel,p,q,hg',ht',hvar,hd,_,_⟩,_⟩:=h
 have hg:Tryz.prog.globalNamed "weephole/prog.forms"=some 4:=by kernel_rfl
 have hty:(Tryz.prog.globals[4]?).map (·.type)=some 232:=by kernel_rfl
 obtain rfl:=Option.some.inj (hg.symm.trans hg')
 obtain rfl:=Option.some.inj (hty.symm.trans ht')
 obtain ⟨xs,m,_,hx,_,hlen,hf⟩:=DataW.trod_array Tryz.underlying232 hd
 have hc3:Tryz.prog.cellsOf 231=3:=by kernel_rfl
 have hcb:Tryz.prog.cellsOf 4=1:=by kernel_rfl
 have hci:Tryz.prog.cellsOf 3=1:=by kernel_rfl
 have h1:fieldsL.map (fun f=>(DataW.agg [.lit (.bool f.1),.lit (.bool f.2.1),.lit (.int .i64 f.2.2)]:DataW Unit))=xs.map (·.1):=by
  have:=congrArg Prod.fst hx
  simpa only [formsD,DataW.agg.injEq] using this
 intro k hk
 have hk2:k<fieldsL.length:=by simpa [fieldsL] using hk
 have hkx:k<xs.length:=by omega
 have h2:=hf k hk
 rw [hc3,List.getElem?_eq_getElem hkx] at h2
 have h4:=congrArg (fun l=>l[k]?) h1
 simp only [List.getElem?_map,List.getElem?_eq_getElem hk2,List.getElem?_eq_getElem hkx,Option.map_some,Option.some.injEq] at h4
 obtain ⟨y0,y1,y2,n1,hx3,h30,k0,k1,k2⟩:=Deep.trod_struct3 Tryz.underlying231 h2
 rw [hx3] at h4
 simp only [DataW.agg.injEq,List.cons.injEq,and_true] at h4
 obtain ⟨g0,g1,g2⟩:=h4
 rw [hc3] at h30
 simp only [hcb,hci] at k0 k1 k2
 obtain ⟨b0,e0,q0⟩:=DataW.trod_bool Tryz.underlying4 k0
 obtain ⟨b1,e1,q1⟩:=DataW.trod_bool Tryz.underlying4 k1
 obtain ⟨i2,e2,q2,_⟩:=DataW.trod_int Tryz.underlying3 k2
 rw [q0] at g0
 rw [q1] at g1
 rw [q2] at g2
 simp only [DataW.lit.injEq,Lit.bool.injEq,Lit.int.injEq,true_and] at g0 g1 g2
 have hgd:fieldsL.getD k (false,false,0)=fieldsL[k]:=by rw [List.getD_eq_getElem?_getD,List.getElem?_eq_getElem hk2,Option.getD_some]
 rw [hgd,g0,g1,g2]
 have c0:=congrArg (fun l=>l[0]?) e0
 have c1:=congrArg (fun l=>l[0]?) e1
 have c2:=congrArg (fun l=>l[0]?) e2
 simp only [List.getElem?_take,List.getElem?_drop,Nat.add_zero,Nat.zero_lt_one,if_true,Nat.reduceLT,if_pos,List.getElem?_cons_zero,Nat.zero_add] at c0 c1 c2
 have v0:=World.var?_cell hg hvar (3*k)
 have v1:=World.var?_cell hg hvar (3*k+1)
 have v2:=World.var?_cell hg hvar (3*k+2)
 rw [v0,v1,v2]
 rw [Nat.mul_comm k 3] at c0 c1 c2
 exact ⟨by simpa using c0,by simpa using c1,by simpa using c2⟩
theorem pre_of_laid {W:World} (h:laidMetH Tryz.prog laidPg W):PrE W:=by
 rw [MakeChecks.laidMetH_plain _ _ _ (by kernel_rfl)] at h
 refine ⟨⟨?_,?_⟩,?_⟩
 ·exact kw_of (show laidMet Tryz.prog (("weephole/prog.keywords",strsD kwL) :: [("weephole/prog.forms",Rows.laid_weephole_prog_forms)]) W from h.tail.tail.tail)
 ·exact fo_of (show laidMet Tryz.prog (("weephole/prog.forms",formsD fieldsL) :: []) W from h.tail.tail.tail.tail)
 ·exact Lib.tabIs_of_head (P:=Tryz.prog) (n:=20) (show Tryz.prog.globalNamed "internal/strconv.uint64pow10"=some 5 by kernel_rfl) (show (Tryz.prog.globals[5]?).map (·.type)=some 234 by kernel_rfl) Tryz.underlying234 Tryz.underlying35 (by kernel_rfl) (by kernel_rfl) (show laidMet Tryz.prog (("internal/strconv.uint64pow10",Lib.tabData .u64 Lib.pow10Tab) :: [("weephole/prog.keywords",Rows.laid_weephole_prog_keywords),("weephole/prog.forms",Rows.laid_weephole_prog_forms)]) W from h.tail.tail)
end Go.Proofs.YtoofbgoeipijcaaGreatDoor
