/-
 Policies: the reader.
-/
import Derived.Test.YtbijamcoibonkaaDoorCSPoB
import Derived.Test.YtbijamcoibonkaaDoorCB16
namespace Go.Proofs.YtbijamcoibonkaaDoor
set_option linter.unusedSimpArgs false
set_option linter.unusedVariables false
open Go.RowKit Go.Shelf
attribute [local go_sem] Oper.semAt_some
abbrev rdL (vl vo vc vs wv:Value) (r:RS):List Value:=[vl,vo,vc,vs,.bool r.p.sens,.int .i64 r.p.steps,.int .i64 r.p.paths,.int .i64 r.p.nodes,.int .i64 r.p.conf,wv,.int .i64 (r.ix:Int),.int .i64 r.pos.1,.int .i64 r.pos.2,.int .i64 r.e]
structure Rr (b:Nat) (vl vo vc vs:Value) (pw:Option Addr) (cw:Nat) (ws:List Wd) (r:RS) (w:World):Prop where
 box:BxL 93 b (rdL vl vo vc vs (.slice pw ws.length cw) r) w
 row:RowR (·<b) w pw (wflat ws)
 le:r.ix≤ws.length
 ok:WOk ws
def RrP (b:Nat) (vl vo vc vs:Value) (pw:Option Addr) (cw:Nat) (ws:List Wd) (v:Value) (r:RS) (w:World) (e:Ending) (w':World):Prop :=
 e = .returned v∧Rr b vl vo vc vs pw cw ws r w'∧But (fun i=>i=b) w w'
section
variable {b:Nat} {vl vo vc vs:Value} {pw:Option Addr} {cw:Nat} {ws:List Wd} {r:RS} {w w2:World}
theorem Rr.below (h:Rr b vl vo vc vs pw cw ws r w) (hb:Below w.heap.size w w2):Rr b vl vo vc vs pw cw ws r w2:=⟨h.box.bel hb,h.row.keep fun i hi=>⟨hi,hb.block i (Nat.lt_trans hi h.box.lt)⟩,h.le,h.ok⟩
theorem Rr.al (h:Rr b vl vo vc vs pw cw ws r w) (o:Obj):Rr b vl vo vc vs pw cw ws r (w.alloc o):=h.below ((Below.refl _ _).alloc (Nat.le_refl _) _)
theorem Rr.dr (h:Rr b vl vo vc vs pw cw ws r w):Rr b vl vo vc vs pw cw ws r w.drew:=h.below (Below.refl _ _).drew
theorem Rr.other (h:Rr b vl vo vc vs pw cw ws r w) {c i:Nat} (v:Value) (hc:b<c):Rr b vl vo vc vs pw cw ws r (w.setCell ⟨c,i,none⟩ v):=⟨h.box.keep (heap_ot (by omega) _),h.row.keep fun j hj=>⟨hj,heap_ot (by omega) _⟩,h.le,h.ok⟩
theorem Rr.at (h:Rr b vl vo vc vs pw cw ws r w):∃ wb off,pw=some ⟨wb,off,none⟩∧wb<b∧∀ j (hj:j<ws.length),w.cell? ⟨wb,off+j*3,none⟩=some (.string ⟨ws[j].1.toArray⟩)∧w.cell? ⟨wb,off+j*3+1,none⟩=some (.int .i64 (ws[j].2.1:Int))∧w.cell? ⟨wb,off+j*3+2,none⟩=some (.int .i64 (ws[j].2.2:Int)):=by
 obtain ⟨wb,off,e,hR,hc⟩:=h.row.atW 0 h.ok.pos
 exact ⟨wb,off,e,hR,hc⟩
end
theorem Rr.set3 {b:Nat} {vl vo vc vs:Value} {pw:Option Addr} {cw:Nat} {ws:List Wd} {r:RS} {w:World} (h:Rr b vl vo vc vs pw cw ws r w) (pos:Int × Int) (e:Int):Rr b vl vo vc vs pw cw ws { r with pos:=pos,e:=e } (((w.setCell ⟨b,11,none⟩ (.int .i64 pos.1)).setCell ⟨b,12,none⟩ (.int .i64 pos.2)).setCell ⟨b,13,none⟩ (.int .i64 e)) :=
 ⟨((h.box.set 11 _).set 12 _).set 13 _,h.row.keep fun j hj=>⟨hj,by rw [heap_ot (Nat.ne_of_lt hj),heap_ot (Nat.ne_of_lt hj),heap_ot (Nat.ne_of_lt hj)]⟩,h.le,h.ok⟩
theorem Rr.setIx {b:Nat} {vl vo vc vs:Value} {pw:Option Addr} {cw:Nat} {ws:List Wd} {r:RS} {w:World} (h:Rr b vl vo vc vs pw cw ws r w) (hi:r.ix<ws.length):Rr b vl vo vc vs pw cw ws { r with ix:=r.ix+1 } (w.setCell ⟨b,10,none⟩ (.int .i64 ((r.ix:Int)+1))) :=
 ⟨h.box.set 10 _,h.row.keep fun j hj=>⟨hj,heap_ot (Nat.ne_of_lt hj) _⟩,hi,h.ok⟩
set_option maxRecDepth 100000 in
set_option maxHeartbeats 4000000 in
theorem fail_po {b:Nat} {vl vo vc vs:Value} {pw:Option Addr} {cw:Nat} {ws:List Wd} {r:RS} {w:World} (pos:Int × Int) (e:Int) (h:Rr b vl vo vc vs pw cw ws r w) :
  Calls Tryd.prog 51 #[.pointer (some ⟨b,0,none⟩),.agg #[.int .i64 pos.1,.int .i64 pos.2],.int .i64 e] w (RrP b vl vo vc vs pw cw ws (.tuple #[]) (failR r pos e) w):=by
 have HR:=hid h
 have HB1:=hid (show But (fun i=>i=b) w (w.alloc (.cells #[.int .i64 pos.1,.int .i64 pos.2] 42)) from But.of_below _ ((Below.refl _ _).alloc (Nat.le_refl _) _))
 clear h
 by_cases he:r.e=0
 ·have HE:=hid he
  go_enter Tryd.func51,Tryd.ntmps51
  go_upto_region 1 with fail
  obtain ⟨p9,hp9⟩:∃ p,w.heap.size=p:=⟨_,rfl⟩
  obtain ⟨w1,hw1⟩:∃ W,w.alloc (.cells #[.int .i64 pos.1,.int .i64 pos.2] 42)=W:=⟨_,rfl⟩
  rw [hw1] at HB1 ⊢
  have HR1:=hid (show Rr b vl vo vc vs pw cw ws r w1 from by rw [← hw1];exact HR.out.al _)
  have hx:BxL 42 p9 [.int .i64 pos.1,.int .i64 pos.2] w1:=by rw [← hw1,← hp9];exact BxL.new _ _ _
  have x0:=hx.at 0 rfl
  have x1:=hx.at 1 rfl
  have c13:=HR1.out.box.at 13 rfl
  have f11:=HR1.out.box.fr 11
  have f12:=HR1.out.box.fr 12
  have f13:=HR1.out.box.fr 13
  have c11:=HR1.out.box.at 11 rfl
  have c12:=HR1.out.box.at 12 rfl
  rw [hp9]
  have te:(r.e == 0)=true:=by rw [he];rfl
  clear hw1 hx he hp9
  go_wp2_with fail
  go_end0
  refine ⟨rfl,?_,?_⟩
  ·rw [show failR r pos e={ r with pos:=pos,e:=e } from if_pos HE.out]
   exact HR1.out.set3 pos e
  ·exact ((HB1.out.setC _ (.inl rfl)).setC _ (.inl rfl)).setC _ (.inl rfl)
 ·have te:(r.e == 0)=false:=by rw [beq_eq_false_iff_ne];exact he
  have HE:=hid he
  have hc:∀ o,(w.alloc o).cell? ⟨b,13,none⟩=some (.int .i64 r.e):=fun o=>(HR.out.al o).box.at 13 rfl
  clear he
  go_enter Tryd.func51,Tryd.ntmps51
  go_wp2_with fail
  go_end0
  refine ⟨rfl,?_,HB1.out⟩
  rw [show failR r pos e=r from if_neg HE.out]
  exact HR.out.al _
theorem failR_ix (r:RS) (pos:Int × Int) (e:Int):(failR r pos e).ix=r.ix:=by unfold failR;split <;> rfl
theorem failR_p (r:RS) (pos:Int × Int) (e:Int):(failR r pos e).p=r.p:=by unfold failR;split <;> rfl
theorem hd_at {ws:List Wd} (h:0<ws.length):ws.headD wd0=ws[0]:=by cases ws with | nil=>simp at h | cons a b=>rfl
theorem getD_at {ws:List Wd} {i:Nat} (h:i<ws.length):ws.getD i wd0=ws[i]:=by rw [List.getD_eq_getElem?_getD,List.getElem?_eq_getElem h];rfl
set_option maxRecDepth 100000 in
set_option maxHeartbeats 4000000 in
theorem next_po {b:Nat} {vl vo vc vs:Value} {pw:Option Addr} {cw:Nat} {ws:List Wd} {r:RS} {w:World} (h:Rr b vl vo vc vs pw cw ws r w):Calls Tryd.prog 129 #[.pointer (some ⟨b,0,none⟩)] w (RrP b vl vo vc vs pw cw ws (wdV (nextR ws r).1) (nextR ws r).2 w):=by
 have HR:=hid h
 obtain ⟨wb,off,rfl,hwb,hc⟩:=h.at
 have HWB:=hid hwb
 have c9:=h.box.at 9 rfl
 have c10:=h.box.at 10 rfl
 have HW:=hid h.ok;have HLE:=hid h.le;have HSZ:=hid h.box.lt
 clear h hc hwb
 go_enter Tryd.func129,Tryd.ntmps129
 go_upto_region 1 with fail
 obtain ⟨w1,hw1⟩:∃ W,w.alloc (.cells #[.string ⟨#[]⟩,.int .i64 0,.int .i64 0] 97)=W:=⟨_,rfl⟩
 have HR1:=hid (show Rr b vl vo vc vs (some ⟨wb,off,none⟩) cw ws r w1 from by rw [← hw1];exact HR.out.al _)
 have HX1:=hid (show BxL 97 w.heap.size [.string ⟨#[]⟩,.int .i64 0,.int .i64 0] w1 from by rw [← hw1];exact BxL.new _ _ _)
 have HB1:=hid (show But (fun i=>i=b) w w1 from by rw [← hw1];exact But.of_below _ ((Below.refl _ _).alloc (Nat.le_refl _) _))
 rw [hw1]
 clear hw1 c9 c10
 have hS:(fun W:World=>W.cell? ⟨b,10,none⟩=some (.int .i64 (r.ix:Int))∧W.cell? ⟨b,9,none⟩=some (.slice (some ⟨wb,off,none⟩) ws.length cw)) w1.drew:=⟨HR1.out.box.at 10 rfl,HR1.out.box.at 9 rfl⟩
 by_cases hlt:r.ix<ws.length
 ·obtain ⟨x,hx⟩:∃ x,ws[r.ix]=x:=⟨_,rfl⟩
  have HNX:=hid (show nextR ws r=(x,{ r with ix:=r.ix+1 }) from by rw [next_ok hlt,getD_at hlt,hx])
  have t1:decide ((ws.length:Int)≤(r.ix:Int))=false:=decide_eq_false (by omega)
  have t1':¬ (ws.length:Int)≤(r.ix:Int):=by omega
  have t1n:¬ ws.length≤r.ix:=by omega
  have HLT:=hid hlt
  obtain ⟨wb',off',e,_,hc⟩:=HR1.out.at
  cases e
  have h0:=hc r.ix hlt
  rw [hx] at h0
  have HC:=hid h0
  clear hlt hx hc h0
  have hFa:=fT
  refine rgN (fun W:World=>W.cell? ⟨b,10,none⟩=some (.int .i64 (r.ix:Int))∧W.cell? ⟨b,9,none⟩=some (.slice (some ⟨wb,off,none⟩) ws.length cw)) 10 (by kernel_rfl) ?_
  simp only [List.size_toArray,List.length_cons,List.length_nil,Nat.reduceAdd]
  iterate 10 (refine wpHJ_nx (v:=?_) 10 rfl rfl (by kernel_rfl) nE hS ?_ ?_;rotate_left;(focus refine Or.inl ⟨by rfl,?_⟩;rintro w' ⟨s0,s1⟩;go_simp;try rfl);simp only [Act.put,actP,actQ])
  refine wpHJ_done (by kernel_rfl) ?_ _
  simp only [onlyN,Exit.then]
  clear hFa
  clear hS t1 t1' t1n
  have c10:=HR1.out.box.at 10 rfl
  have f10:=HR1.out.box.fr 10
  have a1:=wrap_next HLT.out (by have:=HW.out.len;omega)
  go_upto_region 5 with fail
  obtain ⟨w2,hw2⟩:∃ W,w1.setCell ⟨b,10,none⟩ (.int .i64 ((r.ix:Int)+1))=W:=⟨_,rfl⟩
  have HR2:=hid (show Rr b vl vo vc vs (some ⟨wb,off,none⟩) cw ws { r with ix:=r.ix+1 } w2 from by rw [← hw2];exact HR1.out.setIx HLT.out)
  have HB2:=hid (show But (fun i=>i=b) w w2 from by rw [← hw2];exact HB1.out.setC _ (.inl rfl))
  have HX2:=hid (show BxL 97 w.heap.size [.string ⟨#[]⟩,.int .i64 0,.int .i64 0] w2 from by rw [← hw2];exact HX1.out.keep (heap_ot (by have:=HSZ.out;omega) _))
  have HC2:=hid (show (w2.cell? ⟨wb,off+r.ix*3,none⟩=some (.string ⟨x.1.toArray⟩)∧w2.cell? ⟨wb,off+r.ix*3+1,none⟩=some (.int .i64 (x.2.1:Int))∧w2.cell? ⟨wb,off+r.ix*3+2,none⟩=some (.int .i64 (x.2.2:Int))) from by
   have hq:∀ i,w2.cell? ⟨wb,i,none⟩=w1.cell? ⟨wb,i,none⟩:=fun i=>by rw [← hw2];exact World.cell?_of_block (a:=⟨wb,i,none⟩) (heap_ot (Nat.ne_of_lt HWB.out) _)
   rw [hq,hq,hq];exact HC.out)
  rw [hw2]
  clear hw2 c10 f10 a1
  have hS:(fun W:World=>W.cell? ⟨b,10,none⟩=some (.int .i64 ((r.ix:Int)+1))∧W.cell? ⟨b,9,none⟩=some (.slice (some ⟨wb,off,none⟩) ws.length cw)∧W.cell? ⟨wb,off+r.ix*3,none⟩=some (.string ⟨x.1.toArray⟩)∧W.cell? ⟨wb,off+r.ix*3+1,none⟩=some (.int .i64 (x.2.1:Int))∧W.cell? ⟨wb,off+r.ix*3+2,none⟩=some (.int .i64 (x.2.2:Int))) w2.drew:=⟨HR2.out.box.at 10 rfl,HR2.out.box.at 9 rfl,HC2.out⟩
  have wk:IntKind.i64.wrap (r.ix:Int)=(r.ix:Int):=IntWalk.i64_in _ (by have:=HLT.out;have:=HW.out.len;omega)
  have t0:=HX2.out.fr 0
  have t1:=HX2.out.fr 1
  have t2:=HX2.out.fr 2
  obtain ⟨t3,t4,t5⟩:=HX2.out.p3
  have hltI:(r.ix:Int)<(ws.length:Int):=by have:=HLT.out;omega
  have hlt:=HLT.out
  have hFa:=fT
  refine rgN (fun W:World=>W.cell? ⟨b,10,none⟩=some (.int .i64 ((r.ix:Int)+1))∧W.cell? ⟨b,9,none⟩=some (.slice (some ⟨wb,off,none⟩) ws.length cw)∧W.cell? ⟨wb,off+r.ix*3,none⟩=some (.string ⟨x.1.toArray⟩)∧W.cell? ⟨wb,off+r.ix*3+1,none⟩=some (.int .i64 (x.2.1:Int))∧W.cell? ⟨wb,off+r.ix*3+2,none⟩=some (.int .i64 (x.2.2:Int))) 11 (by kernel_rfl) ?_
  simp only [List.size_toArray,List.length_cons,List.length_nil,Nat.reduceAdd]
  iterate 11 (refine wpHJ_nx (v:=?_) 12 rfl rfl (by kernel_rfl) nE hS ?_ ?_;rotate_left;(focus refine Or.inl ⟨by rfl,?_⟩;rintro w' ⟨s0,s1,s2,s3,s4⟩;go_simp;try rfl);simp only [Act.put,actP,actQ])
  refine wpHJ_only 11 (by kernel_rfl) rfl (fun K hK=>?_)
  go_simp
  refine hK _ _ (.inl rfl) ?_
  clear hK K
  refine wpHJ_done (by kernel_rfl) ?_ _
  simp only [onlyN,Exit.then]
  clear hFa
  clear hS
  generalize hw3:World.setCell _ _ _=w3
  have hX3:BxL 97 w.heap.size [.string ⟨x.1.toArray⟩,.int .i64 (x.2.1:Int),.int .i64 (x.2.2:Int)] w3:=by rw [← hw3];exact ((HX2.out.set 0 _).set 1 _).set 2 _
  have HR3:=hid (show Rr b vl vo vc vs (some ⟨wb,off,none⟩) cw ws { r with ix:=r.ix+1 } w3 from by rw [← hw3];exact ((HR2.out.other _ HSZ.out).other _ HSZ.out).other _ HSZ.out)
  have HN3:=hid (show But (fun i=>i=b) w w3 from by rw [← hw3];exact ((HB2.out.setC _ (.inr (Nat.le_refl _))).setC _ (.inr (Nat.le_refl _))).setC _ (.inr (Nat.le_refl _)))
  clear hw3
  obtain ⟨g0,g1,g2⟩:=hX3.p3
  clear hX3 t0 t1 t2 t3 t4 t5
  go_wp2_with fail
  refine bodyPost_ret (v:=wdV x) (by simp [results,Tryd.results129,go_sem,wdV,g0,g1,g2]) rfl ?_
  refine ⟨by rw [HNX.out],?_,by first | exact HN3.out | exact HN3.out.dr | exact HN3.out.dr.dr⟩
  rw [HNX.out]
  first | exact HR3.out | exact HR3.out.dr | exact HR3.out.dr.dr
 ·have hix:r.ix=ws.length:=by have:=HLE.out;omega
  have HNX:=hid (show nextR ws r=(wd0,failR r (wpos (ws.headD wd0)) 4) from if_neg hlt)
  have t1:decide ((ws.length:Int)≤(r.ix:Int))=true:=decide_eq_true (by omega)
  have t1':(ws.length:Int)≤(r.ix:Int):=by omega
  have t1n:ws.length≤r.ix:=by omega
  obtain ⟨x,hx⟩:∃ x,ws[0]'HW.out.pos=x:=⟨_,rfl⟩
  have HHD:=hid (show ws.headD wd0=x from by rw [hd_at HW.out.pos,hx])
  obtain ⟨wb',off',e,_,hc⟩:=HR1.out.at
  cases e
  have h0:=hc 0 HW.out.pos
  rw [hx] at h0
  rw [show off+0*3=off from by omega] at h0
  have HC:=hid h0
  clear hlt hx hc h0 hix
  have hFa:=fT
  refine rgN (fun W:World=>W.cell? ⟨b,10,none⟩=some (.int .i64 (r.ix:Int))∧W.cell? ⟨b,9,none⟩=some (.slice (some ⟨wb,off,none⟩) ws.length cw)) 10 (by kernel_rfl) ?_
  simp only [List.size_toArray,List.length_cons,List.length_nil,Nat.reduceAdd]
  iterate 10 (refine wpHJ_nx (v:=?_) 10 rfl rfl (by kernel_rfl) nE hS ?_ ?_;rotate_left;(focus refine Or.inl ⟨by rfl,?_⟩;rintro w' ⟨s0,s1⟩;go_simp;try rfl);simp only [Act.put,actP,actQ])
  refine wpHJ_done (by kernel_rfl) ?_ _
  simp only [onlyN,Exit.then]
  clear hFa
  clear hS t1 t1' t1n
  obtain ⟨h0,h1,h2⟩:=HC.out
  have c9:=HR1.out.box.at 9 rfl
  have hl:=HW.out.pos
  have HFA:=hid (show Calls Tryd.prog 51 #[.pointer (some ⟨b,0,none⟩),.agg #[.int .i64 (x.2.1:Int),.int .i64 (x.2.2:Int)],.int .i64 4] w1.drew (RrP b vl vo vc vs (some ⟨wb,off,none⟩) cw ws (.tuple #[]) (failR r (wpos x) 4) w1.drew) from fail_po (wpos x) 4 HR1.out.dr)
  obtain ⟨L,hL⟩:∃ L,ws.length=L:=⟨_,rfl⟩
  have HLL:=hid hL
  rw [hL] at c9 hl
  clear hL
  go_upto_region 3 with (go_at_call 51;(with_reducible refine HFA.out.mono ?_);rintro e w2 ⟨rfl,hr2,hb2⟩;have HR2:=hid hr2;have HB2:=hid (HB1.out.dr.trans hb2);have HX2:=hid ((show BxL 97 w.heap.size [.string ⟨#[]⟩,.int .i64 0,.int .i64 0] w1.drew from HX1.out).but hb2 (by have:=HSZ.out;omega));clear hr2 hb2)
  have t0:=HX2.out.fr 0
  have t1:=HX2.out.fr 1
  have t2:=HX2.out.fr 2
  obtain ⟨t3,t4,t5⟩:=HX2.out.p3
  go_wp2_with fail
  generalize hw3:World.setCell _ _ _=w3
  have hX3:BxL 97 w.heap.size [.string ⟨#[]⟩,.int .i64 0,.int .i64 0] w3:=by rw [← hw3];exact ((HX2.out.set 0 _).set 1 _).set 2 _
  have HR3:=hid (show Rr b vl vo vc vs (some ⟨wb,off,none⟩) cw ws (failR r (wpos x) 4) w3 from by rw [← hw3];exact ((HR2.out.other _ HSZ.out).other _ HSZ.out).other _ HSZ.out)
  have HN3:=hid (show But (fun i=>i=b) w w3 from by rw [← hw3];exact ((HB2.out.setC _ (.inr (Nat.le_refl _))).setC _ (.inr (Nat.le_refl _))).setC _ (.inr (Nat.le_refl _)))
  clear hw3
  obtain ⟨g0,g1,g2⟩:=hX3.p3
  refine bodyPost_ret (v:=wdV wd0) (by simp [results,Tryd.results129,go_sem,wdV,wd0,g0,g1,g2]) rfl ?_
  refine ⟨by rw [HNX.out],?_,by first | exact HN3.out | exact HN3.out.dr | exact HN3.out.dr.dr⟩
  rw [HNX.out,HHD.out]
  first | exact HR3.out | exact HR3.out.dr | exact HR3.out.dr.dr
set_option maxRecDepth 100000 in
set_option maxHeartbeats 4000000 in
theorem end_po {b:Nat} {vl vo vc vs:Value} {pw:Option Addr} {cw:Nat} {ws:List Wd} {r:RS} {w:World} (h:Rr b vl vo vc vs pw cw ws r w):Calls Tryd.prog 53 #[.pointer (some ⟨b,0,none⟩)] w (RrP b vl vo vc vs pw cw ws (.tuple #[]) (endR ws r) w):=by
 have HR:=hid h
 obtain ⟨wb,off,rfl,hwb,hc⟩:=h.at
 have HW:=hid h.ok;have HLE:=hid h.le;have HSZ:=hid h.box.lt;have HWB:=hid hwb
 have hS:(fun W:World=>W.cell? ⟨b,10,none⟩=some (.int .i64 (r.ix:Int))∧W.cell? ⟨b,9,none⟩=some (.slice (some ⟨wb,off,none⟩) ws.length cw)) w.drew:=⟨h.box.at 10 rfl,h.box.at 9 rfl⟩
 by_cases hlt:r.ix<ws.length
 ·obtain ⟨x,hx⟩:∃ x,ws[r.ix]=x:=⟨_,rfl⟩
  have HNX:=hid (show endR ws r=failR r (wpos x) 4 from by unfold endR;rw [if_pos hlt,getD_at hlt,hx])
  have t1:decide ((r.ix:Int)<(ws.length:Int))=true:=decide_eq_true (by omega)
  have t1':(r.ix:Int)<(ws.length:Int):=by omega
  have h0:=hc r.ix hlt
  rw [hx] at h0
  have HC:=hid h0
  have HFA:=hid (show Calls Tryd.prog 51 #[.pointer (some ⟨b,0,none⟩),.agg #[.int .i64 (x.2.1:Int),.int .i64 (x.2.2:Int)],.int .i64 4] w.drew.drew (RrP b vl vo vc vs (some ⟨wb,off,none⟩) cw ws (.tuple #[]) (failR r (wpos x) 4) w.drew.drew) from fail_po (wpos x) 4 h.dr.dr)
  have HLT:=hid hlt
  clear h hlt hx hc h0 hwb
  go_enter Tryd.func53,Tryd.ntmps53
  go_upto_region 0 with fail
  have hFa:=fT
  refine rgN (fun W:World=>W.cell? ⟨b,10,none⟩=some (.int .i64 (r.ix:Int))∧W.cell? ⟨b,9,none⟩=some (.slice (some ⟨wb,off,none⟩) ws.length cw)) 10 (by kernel_rfl) ?_
  simp only [List.size_toArray,List.length_cons,List.length_nil,Nat.reduceAdd]
  iterate 10 (refine wpHJ_nx (v:=?_) 10 rfl rfl (by kernel_rfl) nE hS ?_ ?_;rotate_left;(focus refine Or.inl ⟨by rfl,?_⟩;rintro w' ⟨s0,s1⟩;go_simp;try rfl);simp only [Act.put,actP,actQ])
  refine wpHJ_done (by kernel_rfl) ?_ _
  simp only [onlyN,Exit.then]
  clear hFa
  clear hS t1
  have hS:(fun W:World=>W.cell? ⟨b,10,none⟩=some (.int .i64 (r.ix:Int))∧W.cell? ⟨b,9,none⟩=some (.slice (some ⟨wb,off,none⟩) ws.length cw)∧W.cell? ⟨wb,off+r.ix*3+1,none⟩=some (.int .i64 (x.2.1:Int))∧W.cell? ⟨wb,off+r.ix*3+2,none⟩=some (.int .i64 (x.2.2:Int))) w.drew.drew:=⟨HR.out.box.at 10 rfl,HR.out.box.at 9 rfl,HC.out.2⟩
  go_upto_region 1 with fail
  have hlt:=HLT.out
  have hFa:=fT
  refine rgN (fun W:World=>W.cell? ⟨b,10,none⟩=some (.int .i64 (r.ix:Int))∧W.cell? ⟨b,9,none⟩=some (.slice (some ⟨wb,off,none⟩) ws.length cw)∧W.cell? ⟨wb,off+r.ix*3+1,none⟩=some (.int .i64 (x.2.1:Int))∧W.cell? ⟨wb,off+r.ix*3+2,none⟩=some (.int .i64 (x.2.2:Int))) 13 (by kernel_rfl) ?_
  simp only [List.size_toArray,List.length_cons,List.length_nil,Nat.reduceAdd]
  iterate 12 (refine wpHJ_nx (v:=?_) 13 rfl rfl (by kernel_rfl) nE hS ?_ ?_;rotate_left;(focus refine Or.inl ⟨by rfl,?_⟩;rintro w' ⟨s0,s1,s2,s3⟩;go_simp;try rfl);simp only [Act.put,actP,actQ])
  refine wpHJ_only 12 (by kernel_rfl) rfl (fun K hK=>?_)
  go_simp
  (with_reducible refine (callsIn_wide.2 HFA.out).mono ?_)
  rintro e w2 ⟨rfl,hr2,hb2⟩
  have HR2:=hid hr2
  have HB2:=hid hb2
  have hS2:(fun W:World=>W.cell? ⟨b,10,none⟩=some (.int .i64 (r.ix:Int))∧W.cell? ⟨b,9,none⟩=some (.slice (some ⟨wb,off,none⟩) ws.length cw)∧W.cell? ⟨wb,off+r.ix*3+1,none⟩=some (.int .i64 (x.2.1:Int))∧W.cell? ⟨wb,off+r.ix*3+2,none⟩=some (.int .i64 (x.2.2:Int))) w2:=⟨by have:=hr2.box.at 10 rfl;rw [failR_ix] at this;exact this,hr2.box.at 9 rfl,by
   have hq:∀ i,w2.cell? ⟨wb,i,none⟩=w.cell? ⟨wb,i,none⟩:=fun i=>World.cell?_of_block (a:=⟨wb,i,none⟩) (hb2.block wb (Nat.lt_trans HWB.out HSZ.out) (Nat.ne_of_lt HWB.out))
   rw [hq,hq];exact HC.out.2⟩
  clear hr2 hb2
  refine hK _ _ (.inr (.inr hS2)) ?_
  clear hK K
  refine wpHJ_done (by kernel_rfl) ?_ _
  simp only [onlyN,Exit.then]
  clear hFa
  clear hS hS2
  go_end0
  refine ⟨rfl,by rw [HNX.out];exact HR2.out,(But.refl _ w).dr.dr.trans HB2.out⟩
 ·have HNX:=hid (show endR ws r=r from if_neg hlt)
  have t1:decide ((r.ix:Int)<(ws.length:Int))=false:=decide_eq_false (by omega)
  have t1':¬ (r.ix:Int)<(ws.length:Int):=by omega
  clear h hc hwb hlt
  go_enter Tryd.func53,Tryd.ntmps53
  go_upto_region 0 with fail
  have hFa:=fT
  refine rgN (fun W:World=>W.cell? ⟨b,10,none⟩=some (.int .i64 (r.ix:Int))∧W.cell? ⟨b,9,none⟩=some (.slice (some ⟨wb,off,none⟩) ws.length cw)) 10 (by kernel_rfl) ?_
  simp only [List.size_toArray,List.length_cons,List.length_nil,Nat.reduceAdd]
  iterate 10 (refine wpHJ_nx (v:=?_) 10 rfl rfl (by kernel_rfl) nE hS ?_ ?_;rotate_left;(focus refine Or.inl ⟨by rfl,?_⟩;rintro w' ⟨s0,s1⟩;go_simp;try rfl);simp only [Act.put,actP,actQ])
  refine wpHJ_done (by kernel_rfl) ?_ _
  simp only [onlyN,Exit.then]
  clear hFa
  clear hS
  go_wp2_with fail
  go_end0
  exact ⟨rfl,by rw [HNX.out];exact HR.out.dr,(But.refl _ w).dr⟩
set_option maxRecDepth 100000 in
set_option maxHeartbeats 4000000 in
theorem many_po {b:Nat} {vl vo vc vs:Value} {pw:Option Addr} {cw:Nat} {ws:List Wd} {r:RS} {w:World} (n most:Nat) (h:Rr b vl vo vc vs pw cw ws r w):Calls Tryd.prog 121 #[.pointer (some ⟨b,0,none⟩),.int .i64 (n:Int),.int .i64 (most:Int)] w (RrP b vl vo vc vs pw cw ws (.tuple #[]) (manyR n most ws r) w):=by
 have HR:=hid h
 obtain ⟨wb,off,rfl,hwb,hc⟩:=h.at
 have HW:=hid h.ok
 by_cases hm:most≤n
 ·obtain ⟨x,hx⟩:∃ x,ws[0]'HW.out.pos=x:=⟨_,rfl⟩
  have HNX:=hid (show manyR n most ws r=failR r (wpos x) 5 from by unfold manyR;rw [if_pos hm,hd_at HW.out.pos,hx])
  have t1:decide ((most:Int)≤(n:Int))=true:=decide_eq_true (by omega)
  have t1':(most:Int)≤(n:Int):=by omega
  have h0:=hc 0 HW.out.pos
  rw [hx,show off+0*3=off from by omega] at h0
  obtain ⟨_,h1,h2⟩:=h0
  have c9:=h.box.at 9 rfl
  have hl:=HW.out.pos
  have HFA:=hid (show Calls Tryd.prog 51 #[.pointer (some ⟨b,0,none⟩),.agg #[.int .i64 (x.2.1:Int),.int .i64 (x.2.2:Int)],.int .i64 5] w (RrP b vl vo vc vs (some ⟨wb,off,none⟩) cw ws (.tuple #[]) (failR r (wpos x) 5) w) from fail_po (wpos x) 5 h)
  obtain ⟨L,hL⟩:∃ L,ws.length=L:=⟨_,rfl⟩
  rw [hL] at c9 hl
  clear h hx hc hwb hL hm
  go_enter Tryd.func121,Tryd.ntmps121
  go_wp2_with (go_at_call 51;(with_reducible refine HFA.out.mono ?_);rintro e w2 ⟨rfl,hr2,hb2⟩;have HR2:=hid hr2;have HB2:=hid hb2;clear hr2 hb2)
  go_end0
  exact ⟨rfl,by rw [HNX.out];exact HR2.out,HB2.out⟩
 ·have HNX:=hid (show manyR n most ws r=r from if_neg hm)
  have t1:decide ((most:Int)≤(n:Int))=false:=decide_eq_false (by omega)
  have t1':¬ (most:Int)≤(n:Int):=by omega
  have t1n:¬ most≤n:=hm
  clear h hc hwb hm
  go_enter Tryd.func121,Tryd.ntmps121
  go_wp2_with fail
  go_end0
  exact ⟨rfl,by rw [HNX.out];exact HR.out,But.refl _ w⟩
set_option maxRecDepth 100000 in
set_option maxHeartbeats 4000000 in
theorem name_po {b:Nat} {vl vo vc vs:Value} {pw:Option Addr} {cw:Nat} {ws:List Wd} {r:RS} {w:World} (h:Rr b vl vo vc vs pw cw ws r w):Calls Tryd.prog 122 #[.pointer (some ⟨b,0,none⟩)] w (RrP b vl vo vc vs pw cw ws (wdV (nameR ws r).1) (nameR ws r).2 w):=by
 have HR:=hid h;have HSZ:=hid h.box.lt
 have HNX:=hid (next_po (HR.out.al (.cells #[.string ⟨#[]⟩,.int .i64 0,.int .i64 0] 97)))
 have HMD:=hid (show nameR ws r=nameQ (nextR ws r) from rfl)
 obtain ⟨⟨x,r2⟩,hxr⟩:∃ y,nextR ws r=y:=⟨_,rfl⟩
 rw [hxr] at HNX HMD
 clear h hxr
 go_enter Tryd.func122,Tryd.ntmps122
 go_upto_region 2 with (go_at_call 129;(with_reducible refine (HNX.out).mono ?_);rintro e w1 ⟨rfl,hr1,hb1⟩;have HRa:=hid hr1;have HBa:=hid ((But.of_below (fun i=>i=b) ((Below.refl _ _).alloc (Nat.le_refl w.heap.size) (.cells #[.string ⟨#[]⟩,.int .i64 0,.int .i64 0] 97))).trans hb1);have HZ1:=hid ((BxL.new 97 w [.string ⟨#[]⟩,.int .i64 0,.int .i64 0]).but hb1 (by have:=HSZ.out;omega));clear hr1 hb1)
 obtain ⟨q,hq⟩:∃ q,w1.heap.size=q:=⟨_,rfl⟩
 obtain ⟨w3,hw3⟩:∃ W,w1.alloc (.cells #[.string ⟨x.1.toArray⟩,.int .i64 (x.2.1:Int),.int .i64 (x.2.2:Int)] 97)=W:=⟨_,rfl⟩
 rw [hw3,hq]
 have HR3:=hid (show Rr b vl vo vc vs pw cw ws r2 w3 from by rw [← hw3];exact HRa.out.al _)
 have HB3:=hid (show But (fun i=>i=b) w w3 from by rw [← hw3];exact HBa.out.al _)
 have HX3:=hid (show BxL 97 q [.string ⟨x.1.toArray⟩,.int .i64 (x.2.1:Int),.int .i64 (x.2.2:Int)] w3 from by rw [← hw3,← hq];exact BxL.new _ _ _)
 have HQ:=hid (show w.heap.size≤q from by rw [← hq];exact HBa.out.size)
 have HAL:=hid (show Below w1.heap.size w1 w3 from by rw [← hw3];exact (Below.refl _ _).alloc (Nat.le_refl _) _)
 have HZ3:=hid (show BxL 97 w.heap.size [.string ⟨#[]⟩,.int .i64 0,.int .i64 0] w3 from HZ1.out.bel HAL.out)
 have HQZ:=hid (show w.heap.size<q from by rw [← hq];exact HZ1.out.lt)
 clear hw3 hq
 have HBQ:=hid (show b<q from by have:=HSZ.out;have:=HQZ.out;omega)
 have HTN:=hid (name_all x.1 w3)
 obtain ⟨x0,x1,x2⟩:=HX3.out.p3
 have HON:=hid (fun W (hW:But (fun i=>i=b) w3 W)=>(HX3.out.but hW (Nat.ne_of_gt HBQ.out)).p3)
 by_cases hn:nameB x.1=true
 ·have HQ2:=hid (show nameQ (x,r2)=(x,r2) from by unfold nameQ;rw [if_pos hn])
  rw [hn] at HTN
  clear hn
  go_upto_region 4 with (go_at_call 19;(with_reducible refine HTN.out.mono ?_);rintro e w4 ⟨rfl,hb4⟩;have HB4:=hid (But.of_below (fun i=>i=b) hb4);have HR4:=hid (HR3.out.below hb4);clear hb4)
  obtain ⟨y0,y1,y2⟩:=HON.out _ HB4.out
  have hZ4:=HZ3.out.but HB4.out (by have:=HSZ.out;omega)
  have t0:=hZ4.fr 0
  have t1:=hZ4.fr 1
  have t2:=hZ4.fr 2
  obtain ⟨t3,t4,t5⟩:=hZ4.p3
  go_wp2_with fail
  generalize hw6:World.setCell _ _ _=w6
  have hX6:BxL 97 w.heap.size [.string ⟨x.1.toArray⟩,.int .i64 (x.2.1:Int),.int .i64 (x.2.2:Int)] w6:=by rw [← hw6];exact ((hZ4.set 0 _).set 1 _).set 2 _
  have HR6:=hid (show Rr b vl vo vc vs pw cw ws ((x,r2)).2 w6 from by rw [← hw6];exact ((HR4.out.other _ HSZ.out).other _ HSZ.out).other _ HSZ.out)
  have HN6:=hid (show But (fun i=>i=b) w w6 from by rw [← hw6];exact (((HB3.out.trans HB4.out).setC _ (.inr (Nat.le_refl _))).setC _ (.inr (Nat.le_refl _))).setC _ (.inr (Nat.le_refl _)))
  clear hw6
  obtain ⟨g0,g1,g2⟩:=hX6.p3
  refine bodyPost_ret (v:=wdV x) (by simp [results,Tryd.results122,go_sem,wdV,g0,g1,g2]) rfl ?_
  refine ⟨by rw [HMD.out,HQ2.out],?_,by first | exact HN6.out | exact HN6.out.dr⟩
  rw [HMD.out,HQ2.out]
  first | exact HR6.out | exact HR6.out.dr
 ·have HQ2:=hid (show nameQ (x,r2)=(x,failR r2 (wpos x) 4) from by unfold nameQ;rw [if_neg hn])
  rw [Bool.not_eq_true] at hn
  rw [hn] at HTN
  clear hn
  go_upto_region 4 with (first
   | (go_at_call 19;(with_reducible refine HTN.out.mono ?_);rintro e w4 ⟨rfl,hb4⟩;have HB4:=hid (But.of_below (fun i=>i=b) hb4);have HFA:=hid (show Calls Tryd.prog 51 #[.pointer (some ⟨b,0,none⟩),.agg #[.int .i64 (x.2.1:Int),.int .i64 (x.2.2:Int)],.int .i64 4] w4 (RrP b vl vo vc vs pw cw ws (.tuple #[]) (failR r2 (wpos x) 4) w4) from fail_po (wpos x) 4 (HR3.out.below hb4));obtain ⟨y0,y1,y2⟩:=HON.out _ HB4.out;clear hb4)
   | (go_at_call 51;(with_reducible refine HFA.out.mono ?_);rintro e w5 ⟨rfl,hr5,hb5⟩;have HR5:=hid hr5;have HB5:=hid (HB4.out.trans hb5);clear hr5 hb5))
  clear y0 y1 y2
  obtain ⟨y0,y1,y2⟩:=HON.out _ HB5.out
  have hZ4:=HZ3.out.but HB5.out (by have:=HSZ.out;omega)
  have t0:=hZ4.fr 0
  have t1:=hZ4.fr 1
  have t2:=hZ4.fr 2
  obtain ⟨t3,t4,t5⟩:=hZ4.p3
  go_wp2_with fail
  generalize hw6:World.setCell _ _ _=w6
  have hX6:BxL 97 w.heap.size [.string ⟨x.1.toArray⟩,.int .i64 (x.2.1:Int),.int .i64 (x.2.2:Int)] w6:=by rw [← hw6];exact ((hZ4.set 0 _).set 1 _).set 2 _
  have HR6:=hid (show Rr b vl vo vc vs pw cw ws ((x,failR r2 (wpos x) 4)).2 w6 from by rw [← hw6];exact ((HR5.out.other _ HSZ.out).other _ HSZ.out).other _ HSZ.out)
  have HN6:=hid (show But (fun i=>i=b) w w6 from by rw [← hw6];exact (((HB3.out.trans HB5.out).setC _ (.inr (Nat.le_refl _))).setC _ (.inr (Nat.le_refl _))).setC _ (.inr (Nat.le_refl _)))
  clear hw6
  obtain ⟨g0,g1,g2⟩:=hX6.p3
  refine bodyPost_ret (v:=wdV x) (by simp [results,Tryd.results122,go_sem,wdV,g0,g1,g2]) rfl ?_
  refine ⟨by rw [HMD.out,HQ2.out],?_,by first | exact HN6.out | exact HN6.out.dr⟩
  rw [HMD.out,HQ2.out]
  first | exact HR6.out | exact HR6.out.dr
theorem next_p (ws:List Wd) (r:RS):(nextR ws r).2.p=r.p:=by unfold nextR;split;rfl;exact failR_p _ _ _
theorem name_p (ws:List Wd) (r:RS):(nameR ws r).2.p=r.p:=by
 unfold nameR nameQ
 dsimp only
 split
 ·exact next_p ws r
 ·rw [failR_p];exact next_p ws r
theorem idx_lvl (s:Bs):∀ (l:List Bs) (i:Nat),Lib.idxFromS (l.map fun x=>(⟨x.toArray⟩:ByteArray)) ⟨s.toArray⟩ i=if l.contains s then ((i+l.idxOf s:Nat):Int) else -1
 | [],i=>by simp [Lib.idxFromS]
 | x :: r,i=>by
  rw [List.map_cons,Lib.idxFromS]
  by_cases h:x=s
  ·subst h
   rw [if_pos rfl,if_pos (by simp)]
   simp
  ·have h1:¬ ((⟨x.toArray⟩:ByteArray)=⟨s.toArray⟩):=fun e=>h (by
    have:=congrArg (fun b:ByteArray=>b.data.toList) e
    simpa using this)
   have h2:(x == s)=false:=beq_eq_false_iff_ne.2 h
   have h3:(x :: r).contains s=r.contains s:=by
    rw [Bool.eq_iff_iff,List.contains_iff_mem,List.contains_iff_mem,List.mem_cons]
    exact ⟨fun e=>e.resolve_left fun e=>h e.symm,.inr⟩
   rw [if_neg h1,idx_lvl s r (i+1),h3,List.idxOf_cons,h2,cond_false]
   split
   ·congr 1;omega
   ·rfl
theorem index_po (l:List Bs) (s:Bs) (v:Value) (R:Nat→Prop) (w:World) (h:SlG kStr R w v l):Calls Tryd.prog 56 #[v,.string ⟨s.toArray⟩] w fun e w'=>e = .returned (.int .i64 (lvl l s))∧w'=w:=by
 have hl:∀ l:List Bs,Lib.idxOfS (l.map fun x=>(⟨x.toArray⟩:ByteArray)) ⟨s.toArray⟩=lvl l s:=fun l=>by
  unfold Lib.idxOfS
  rw [idx_lvl,Nat.zero_add];rfl
 obtain ⟨p,c,rfl⟩:=h.slc
 cases l with
 | nil=>exact (Tryd.slices_Index_string_empty p c ⟨s.toArray⟩ w).mono fun e w' ⟨h1,h2⟩=>⟨h1,h2⟩
 | cons x r =>
  obtain ⟨b,off,rfl,hR,hc⟩:=str_at h (by simp)
  have hln:=h.len
  refine (Tryd.slices_Index_string b off (x :: r).length c ((x :: r).map fun x=>(⟨x.toArray⟩:ByteArray)) ⟨s.toArray⟩ w (by simp) (by omega) fun j hj=>?_).mono fun e w' ⟨h1,h2⟩=>⟨?_,h2⟩
  ·have hj':j<(x :: r).length:=by simpa using hj
   rw [hc j hj',List.getD_eq_getElem?_getD,List.getElem?_map,List.getElem?_eq_getElem hj']
   rfl
  ·rw [h1,List.take_of_length_le (by simp),hl]
set_option maxRecDepth 100000 in
set_option maxHeartbeats 4000000 in
theorem level_po {b:Nat} {vl vo vc vs:Value} {pw:Option Addr} {cw:Nat} {ws:List Wd} {r:RS} {w:World} (h:Rr b vl vo vc vs pw cw ws r w) (hv:∀ W,But (fun i=>i=b) w W→SlG kStr (fun _=>True) W vl r.p.lv):Calls Tryd.prog 124 #[.pointer (some ⟨b,0,none⟩)] w (RrP b vl vo vc vs pw cw ws (.int .i64 (levelR ws r).1) (levelR ws r).2 w):=by
 have HR:=hid h;have HSZ:=hid h.box.lt
 have HNX:=hid (name_po h)
 have HMD:=hid (show levelR ws r=levelQ (nameR ws r) from rfl)
 have hp:=name_p ws r
 obtain ⟨⟨x,r2⟩,hxr⟩:∃ y,nameR ws r=y:=⟨_,rfl⟩
 rw [hxr] at HNX HMD hp
 have HLV:=hid (show ∀ W,But (fun i=>i=b) w W→SlG kStr (fun _=>True) W vl r2.p.lv from fun W hW=>by rw [show r2.p=r.p from hp];exact hv W hW)
 clear h hxr hv hp
 go_enter Tryd.func124,Tryd.ntmps124
 go_upto_region 2 with (go_at_call 122;(with_reducible refine (HNX.out).mono ?_);rintro e w1 ⟨rfl,hr1,hb1⟩;have HRa:=hid hr1;have HBa:=hid (hb1);clear hr1 hb1)
 obtain ⟨q,hq⟩:∃ q,w1.heap.size=q:=⟨_,rfl⟩
 obtain ⟨w3,hw3⟩:∃ W,w1.alloc (.cells #[.string ⟨x.1.toArray⟩,.int .i64 (x.2.1:Int),.int .i64 (x.2.2:Int)] 97)=W:=⟨_,rfl⟩
 rw [hw3,hq]
 have HR3:=hid (show Rr b vl vo vc vs pw cw ws r2 w3 from by rw [← hw3];exact HRa.out.al _)
 have HB3:=hid (show But (fun i=>i=b) w w3 from by rw [← hw3];exact HBa.out.al _)
 have HX3:=hid (show BxL 97 q [.string ⟨x.1.toArray⟩,.int .i64 (x.2.1:Int),.int .i64 (x.2.2:Int)] w3 from by rw [← hw3,← hq];exact BxL.new _ _ _)
 have HQ:=hid (show w.heap.size≤q from by rw [← hq];exact HBa.out.size)
 have HAL:=hid (show Below w1.heap.size w1 w3 from by rw [← hw3];exact (Below.refl _ _).alloc (Nat.le_refl _) _)
 clear hw3 hq
 have HBQ:=hid (show b<q from by have:=HSZ.out;have:=HQ.out;omega)
 have hS:(fun W:World=>W.cell? ⟨b,0,none⟩=some vl∧W.cell? ⟨q,0,none⟩=some (.string ⟨x.1.toArray⟩)) w3.drew:=⟨HR3.out.box.at 0 rfl,(HX3.out.p3).1⟩
 have hFa:=fT
 refine rgN (fun W:World=>W.cell? ⟨b,0,none⟩=some vl∧W.cell? ⟨q,0,none⟩=some (.string ⟨x.1.toArray⟩)) 9 (by kernel_rfl) ?_
 simp only [List.size_toArray,List.length_cons,List.length_nil,Nat.reduceAdd]
 iterate 7 (refine wpHJ_nx (v:=?_) 9 rfl rfl (by kernel_rfl) nE hS ?_ ?_;rotate_left;(focus refine Or.inl ⟨by rfl,?_⟩;rintro w' ⟨s0,s1⟩;go_simp;try rfl);simp only [Act.put,actP,actQ])
 refine wpHJ_only 7 (by kernel_rfl) rfl (fun K hK=>?_)
 go_simp
 (with_reducible refine (callsIn_wide.2 (index_po r2.p.lv x.1 vl _ _ (HLV.out _ HB3.out.dr))).mono ?_)
 rintro e w4 ⟨rfl,rfl⟩
 refine hK _ _ (.inr (.inr hS)) ?_
 clear hK K
 (refine wpHJ_nx (v:=?_) 9 rfl rfl (by kernel_rfl) nE hS ?_ ?_;rotate_left;(focus refine Or.inl ⟨by rfl,?_⟩;rintro w' ⟨s0,s1⟩;go_simp;try rfl);simp only [Act.put,actP,actQ])
 refine wpHJ_done (by kernel_rfl) ?_ _
 simp only [onlyN,Exit.then]
 clear hFa
 clear hS
 obtain ⟨x0,x1,x2⟩:=HX3.out.p3
 by_cases hn:r2.p.lv.contains x.1=true
 ·have HQ2:=hid (show levelQ (x,r2)=(lvl r2.p.lv x.1,r2) from by unfold levelQ;rw [if_pos hn])
  have hl:=(lvl_at hn).1
  obtain ⟨z,hz⟩:∃ z,lvl r2.p.lv x.1=z:=⟨_,rfl⟩
  rw [hz] at hl HQ2 ⊢
  have t1:decide (z<0)=false:=decide_eq_false (by omega)
  clear hn hz hl
  go_wp2_with fail
  go_ret
  refine ⟨by rw [HMD.out,HQ2.out];rfl,?_,by first | exact HB3.out | exact HB3.out.dr⟩
  rw [HMD.out,HQ2.out]
  first | exact HR3.out | exact HR3.out.dr
 ·have HQ2:=hid (show levelQ (x,r2)=(-1,failR r2 (wpos x) 6) from by unfold levelQ lvl;rw [if_neg hn,if_neg hn])
  have hz:lvl r2.p.lv x.1 = -1:=if_neg hn
  rw [hz]
  have HFA:=hid (show Calls Tryd.prog 51 #[.pointer (some ⟨b,0,none⟩),.agg #[.int .i64 (x.2.1:Int),.int .i64 (x.2.2:Int)],.int .i64 6] w3.drew (RrP b vl vo vc vs pw cw ws (.tuple #[]) (failR r2 (wpos x) 6) w3.drew) from fail_po (wpos x) 6 HR3.out.dr)
  clear hn hz
  go_wp2_with (go_at_call 51;(with_reducible refine HFA.out.mono ?_);rintro e w5 ⟨rfl,hr5,hb5⟩;have HR5:=hid hr5;have HB5:=hid (HB3.out.dr.trans hb5);clear hr5 hb5)
  go_ret
  refine ⟨by rw [HMD.out,HQ2.out];rfl,?_,HB5.out⟩
  rw [HMD.out,HQ2.out]
  exact HR5.out
set_option maxRecDepth 100000 in
set_option maxHeartbeats 4000000 in
theorem number_po {b:Nat} {vl vo vc vs:Value} {pw:Option Addr} {cw:Nat} {ws:List Wd} {r:RS} {w:World} (lo hi:Nat) (hhi:hi≤1099511627776) (hlo:lo≤1) (h:Rr b vl vo vc vs pw cw ws r w):Calls Tryd.prog 131 #[.pointer (some ⟨b,0,none⟩),.int .u64 (lo:Int),.int .u64 (hi:Int)] w (RrP b vl vo vc vs pw cw ws (.int .i64 (numberR lo hi ws r).1) (numberR lo hi ws r).2 w):=by
 have HR:=hid h;have HSZ:=hid h.box.lt
 have HNX:=hid (next_po h)
 have HMD:=hid (show numberR lo hi ws r=numberQ lo hi (nextR ws r) from rfl)
 have hxl:(nextR ws r).1.1.length≤140737488355328:=by
  unfold nextR
  split
  ·rename_i q
   rw [getD_at q]
   have:=(h.ok.each _ (List.getElem_mem q)).2;dsimp only;omega
  ·simp [wd0]
 obtain ⟨⟨x,r2⟩,hxr⟩:∃ y,nextR ws r=y:=⟨_,rfl⟩
 rw [hxr] at HNX HMD hxl
 have HXL:=hid hxl
 clear h hxr hxl
 go_enter Tryd.func131,Tryd.ntmps131
 go_upto_region 2 with (go_at_call 129;(with_reducible refine (HNX.out).mono ?_);rintro e w1 ⟨rfl,hr1,hb1⟩;have HRa:=hid hr1;have HBa:=hid (hb1);clear hr1 hb1)
 obtain ⟨q,hq⟩:∃ q,w1.heap.size=q:=⟨_,rfl⟩
 obtain ⟨w3,hw3⟩:∃ W,w1.alloc (.cells #[.string ⟨x.1.toArray⟩,.int .i64 (x.2.1:Int),.int .i64 (x.2.2:Int)] 97)=W:=⟨_,rfl⟩
 rw [hw3,hq]
 have HR3:=hid (show Rr b vl vo vc vs pw cw ws r2 w3 from by rw [← hw3];exact HRa.out.al _)
 have HB3:=hid (show But (fun i=>i=b) w w3 from by rw [← hw3];exact HBa.out.al _)
 have HX3:=hid (show BxL 97 q [.string ⟨x.1.toArray⟩,.int .i64 (x.2.1:Int),.int .i64 (x.2.2:Int)] w3 from by rw [← hw3,← hq];exact BxL.new _ _ _)
 have HQ:=hid (show w.heap.size≤q from by rw [← hq];exact HBa.out.size)
 have HAL:=hid (show Below w1.heap.size w1 w3 from by rw [← hw3];exact (Below.refl _ _).alloc (Nat.le_refl _) _)
 clear hw3 hq
 have HBQ:=hid (show b<q from by have:=HSZ.out;have:=HQ.out;omega)
 obtain ⟨x0,x1,x2⟩:=HX3.out.p3
 have HON:=hid (fun W (hW:But (fun i=>i=b) w3 W)=>(HX3.out.but hW (Nat.ne_of_gt HBQ.out)).p3)
 have HTU:=hid (number_any x.1 w3 HXL.out)
 obtain ⟨N,hN⟩:∃ N,(numR x.1).1=N:=⟨_,rfl⟩
 obtain ⟨er,her⟩:∃ e,(numR x.1).2=e:=⟨_,rfl⟩
 rw [hN,her] at HTU
 obtain ⟨Z,hZ⟩:∃ Z,IntKind.i64.wrap (N:Int)=Z:=⟨_,rfl⟩
 have hZ2:wrap64 (N:Int)=Z:=by rw [← hZ];exact (IntWalk.i64_left _).symm
 by_cases hn:er=0
 ·have t1:(er != 0)=false:=by rw [hn];rfl
  by_cases hb:N<lo
  ·have HQ2:=hid (show numberQ lo hi (x,r2)=((N:Int),failR r2 (wpos x) 3) from by unfold numberQ;dsimp only;rw [her,hN,if_neg (by rw [hn];simp),if_pos (.inl hb),IntWalk.i64_in _ (by omega)])
   have t2n:decide (N<lo)=true:=decide_eq_true hb
   have hN1:(N:Int)≤1:=by omega
   clear her hN hn hZ hZ2 hb
   go_wp2_with (first
     | (go_at_call 136;(with_reducible refine HTU.out.mono ?_);rintro e w4 ⟨rfl,hb4⟩;have HB4:=hid (But.of_below (fun i=>i=b) hb4);have HR4:=hid (HR3.out.below hb4);have HFA:=hid (fun er=>show Calls Tryd.prog 51 #[.pointer (some ⟨b,0,none⟩),.agg #[.int .i64 (x.2.1:Int),.int .i64 (x.2.2:Int)],.int .i64 er] w4 (RrP b vl vo vc vs pw cw ws (.tuple #[]) (failR r2 (wpos x) er) w4) from fail_po (wpos x) er (HR3.out.below hb4));obtain ⟨y0,y1,y2⟩:=HON.out _ HB4.out;clear hb4)
     | (go_at_call 51;(with_reducible refine (HFA.out 3).mono ?_);rintro e w5 ⟨rfl,hr5,hb5⟩;have HR5:=hid hr5;have HB5:=hid (HB4.out.trans hb5);clear hr5 hb5))
   go_ret
   refine ⟨by rw [HMD.out,HQ2.out];rfl,?_,HB3.out.trans HB5.out⟩
   rw [HMD.out,HQ2.out]
   exact HR5.out
  by_cases hb2:hi<N
  ·have HQ2:=hid (show numberQ lo hi (x,r2)=(Z,failR r2 (wpos x) 3) from by unfold numberQ;dsimp only;rw [her,hN,if_neg (by rw [hn];simp),if_pos (.inr hb2),hZ])
   have t2n:decide (N<lo)=false:=decide_eq_false hb
   have t4n:decide (hi<N)=true:=decide_eq_true hb2
   clear her hN hn hb hb2
   go_wp2_with (first
     | (go_at_call 136;(with_reducible refine HTU.out.mono ?_);rintro e w4 ⟨rfl,hb4⟩;have HB4:=hid (But.of_below (fun i=>i=b) hb4);have HR4:=hid (HR3.out.below hb4);have HFA:=hid (fun er=>show Calls Tryd.prog 51 #[.pointer (some ⟨b,0,none⟩),.agg #[.int .i64 (x.2.1:Int),.int .i64 (x.2.2:Int)],.int .i64 er] w4 (RrP b vl vo vc vs pw cw ws (.tuple #[]) (failR r2 (wpos x) er) w4) from fail_po (wpos x) er (HR3.out.below hb4));obtain ⟨y0,y1,y2⟩:=HON.out _ HB4.out;clear hb4)
     | (go_at_call 51;(with_reducible refine (HFA.out 3).mono ?_);rintro e w5 ⟨rfl,hr5,hb5⟩;have HR5:=hid hr5;have HB5:=hid (HB4.out.trans hb5);clear hr5 hb5))
   go_ret
   refine ⟨by rw [HMD.out,HQ2.out];rfl,?_,HB3.out.trans HB5.out⟩
   rw [HMD.out,HQ2.out]
   exact HR5.out
  have HQ2:=hid (show numberQ lo hi (x,r2)=((N:Int),r2) from by unfold numberQ;dsimp only;rw [her,hN,if_neg (by rw [hn];simp),if_neg (by omega),IntWalk.i64_in _ (by omega)])
  have t2n:decide (N<lo)=false:=decide_eq_false hb
  have t4n:decide (hi<N)=false:=decide_eq_false hb2
  have hN1:(N:Int)≤1099511627776:=by omega
  clear her hN hn hZ hZ2 hb hb2
  go_wp2_with (go_at_call 136;(with_reducible refine HTU.out.mono ?_);rintro e w4 ⟨rfl,hb4⟩;have HB4:=hid (But.of_below (fun i=>i=b) hb4);have HR4:=hid (HR3.out.below hb4);have HFA:=hid (fun er=>show Calls Tryd.prog 51 #[.pointer (some ⟨b,0,none⟩),.agg #[.int .i64 (x.2.1:Int),.int .i64 (x.2.2:Int)],.int .i64 er] w4 (RrP b vl vo vc vs pw cw ws (.tuple #[]) (failR r2 (wpos x) er) w4) from fail_po (wpos x) er (HR3.out.below hb4));obtain ⟨y0,y1,y2⟩:=HON.out _ HB4.out;clear hb4)
  go_ret
  refine ⟨by rw [HMD.out,HQ2.out];rfl,?_,HB3.out.trans HB4.out⟩
  rw [HMD.out,HQ2.out]
  exact HR4.out
 ·have t1:(er != 0)=true:=by rw [bne_iff_ne];exact hn
  have HQ2:=hid (show numberQ lo hi (x,r2)=(Z,failR r2 (wpos x) er) from by unfold numberQ;dsimp only;rw [her,hN,if_pos hn,hZ])
  clear her hN hn
  go_wp2_with (first
   | (go_at_call 136;(with_reducible refine HTU.out.mono ?_);rintro e w4 ⟨rfl,hb4⟩;have HB4:=hid (But.of_below (fun i=>i=b) hb4);have HR4:=hid (HR3.out.below hb4);have HFA:=hid (fun er=>show Calls Tryd.prog 51 #[.pointer (some ⟨b,0,none⟩),.agg #[.int .i64 (x.2.1:Int),.int .i64 (x.2.2:Int)],.int .i64 er] w4 (RrP b vl vo vc vs pw cw ws (.tuple #[]) (failR r2 (wpos x) er) w4) from fail_po (wpos x) er (HR3.out.below hb4));obtain ⟨y0,y1,y2⟩:=HON.out _ HB4.out;clear hb4)
   | (go_at_call 51;(with_reducible refine (HFA.out er).mono ?_);rintro e w5 ⟨rfl,hr5,hb5⟩;have HR5:=hid hr5;have HB5:=hid (HB4.out.trans hb5);clear hr5 hb5))
  go_ret
  refine ⟨by rw [HMD.out,HQ2.out];rfl,?_,HB3.out.trans HB5.out⟩
  rw [HMD.out,HQ2.out]
  exact HR5.out
end Go.Proofs.YtbijamcoibonkaaDoor
