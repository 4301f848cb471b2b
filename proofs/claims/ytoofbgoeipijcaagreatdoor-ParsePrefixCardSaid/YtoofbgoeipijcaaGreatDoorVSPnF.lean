/-
 A part.
-/
import Derived.Test.YtoofbgoeipijcaaGreatDoorVSPnE
namespace Go.Proofs.YtoofbgoeipijcaaGreatDoor
set_option maxRecDepth 100000
set_option maxHeartbeats 4000000
set_option linter.all false
open Go.RowKit Go.Shelf
attribute [local go_sem] Oper.semAt_some
structure PmJ (B b:Nat) (O:Nat->Value) (pw:Option Addr) (cw:Nat) (ws:List Wd) (S:PS) (an' fn':List Bs) (k:Nat) (w:World):Prop where
 rd:Rd b O S.p.width pw cw S.inn S.step ws k w
 ow:Owns b O w
 ch:GR kStr (Fin' b O w) b 9 w (O 1) S.p.chans
 ar:GR kAr (Fin' b O w) b 87 w (O 2) S.p.arrays
 fu:FuR b O w S.inn S.p.funcs
 mn:GR kIn (Fin' b O w) b 41 w (O 4) S.p.main
 an:GR kStr (Fin' b O w) b 9 w (O 7) an'
 fn:GR kStr (Fin' b O w) b 9 w (O 8) fn'
 lb:GR kStr (Fin' b O w) b 9 w (O 9) S.labels
 st:GR kStr (Fin' b O w) b 9 w (O 10) S.sites
 ge:B<=b
 le:k<=ws.length
section
variable {B b:Nat} {O:Nat->Value} {pw:Option Addr} {cw:Nat} {ws:List Wd} {S:PS} {k:Nat} {w:World}
theorem Pm.toJ (h:Pm B b O pw cw ws S k w):PmJ B b O pw cw ws S (anamesP S.p) (S.p.funcs.map Fu.nm) k w:=⟨h.rd,h.rs.ow,h.rs.ch,h.rs.ar,h.rs.fu,h.rs.mn,h.rs.an,h.rs.fn,h.rs.lb,h.rs.st,h.ge,h.le⟩
theorem PmJ.toP {an fn:List Bs} (h:PmJ B b O pw cw ws S an fn k w) (h1:an=anamesP S.p) (h2:fn=S.p.funcs.map Fu.nm):Pm B b O pw cw ws S k w:=⟨h.rd,⟨h.ow,h.ch,h.ar,h.fu,h.mn,h1 ▸ h.an,h2 ▸ h.fn,h.lb,h.st⟩,h.ge,h.le⟩
theorem PmJ.lt {an fn:List Bs} (h:PmJ B b O pw cw ws S an fn k w):b<w.heap.size:=h.rd.box.lt
theorem PmJ.size {an fn:List Bs} (h:PmJ B b O pw cw ws S an fn k w):B<=w.heap.size:=Nat.le_of_lt (Nat.lt_of_le_of_lt h.ge h.lt)
theorem PmJ.own {an fn:List Bs} (h:PmJ B b O pw cw ws S an fn k w) (i:Nat):(O i).ownBlock ≠ some b:=fun e=>by have:=(h.ow.lt i b e).1;omega
theorem PmJ.grow {an fn:List Bs} {w':World} (h:PmJ B b O pw cw ws S an fn k w) {j c:Nat} {v':Value} (hb:Below w.heap.size w w') {w8:World} (hg:w'.grownBy w8 (O j).ownBlock) (hm:Moved w' (O j) v') (hv:∀ i,v'.ownBlock=some i->i<w8.heap.size) :
  Step b O j w (w8.setCell ⟨b,c,none⟩ v')/\Owns b (upd O j v') (w8.setCell ⟨b,c,none⟩ v')/\Moved w (O j) v'/\RowR (·<b) (w8.setCell ⟨b,c,none⟩ v') pw (wflat ws):=by
 have hst:Step b O j w w8:=⟨hg.os.trans hb.os,hg.tape.trans hb.tape,hg.output.trans hb.output,Nat.le_trans hb.size hg.size,fun i hi hib hne=>(hg.block i (by have:=hb.size;omega) fun e=>hne e.symm).trans (hb.block i hi)⟩
 have hm':Moved w (O j) v':=by
  rcases hm with e | ⟨q,e,hq⟩
  ·exact .inl e
  ·exact .inr ⟨q,e,Nat.le_trans hb.size hq⟩
 refine ⟨hst.set c v',h.ow.moved hm' (by simp only [World.size_setCell];exact hst.size) h.lt (by simp only [World.size_setCell];exact hv),hm',?_⟩
 exact h.rd.row.keep fun i hi=>⟨hi,by rw [heap_ot (Nat.ne_of_lt hi)];exact hst.block i (Nat.lt_trans hi h.lt) (Nat.ne_of_lt hi) fun e=>by have:=(h.ow.lt j i e).1;omega⟩
theorem PmJ.read {an fn:List Bs} {w':World} (h:PmJ B b O pw cw ws S an fn k w) {k':Nat} (hd:Rd b O S.p.width pw cw S.inn S.step ws k' w') (hs:But (fun k=>k=b) w w') (hk:k'<=ws.length):PmJ B b O pw cw ws S an fn k' w' :=
 ⟨hd,h.ow.size hs.size,h.ch.fin hs (h.own 1),h.ar.fin hs (h.own 2),h.fu.fin h.ow hs,h.mn.fin hs (h.own 4),h.an.fin hs (h.own 7),h.fn.fin hs (h.own 8),h.lb.fin hs (h.own 9),h.st.fin hs (h.own 10),h.ge,hk⟩
theorem PmJ.below {an fn:List Bs} {w':World} (h:PmJ B b O pw cw ws S an fn k w) (hb:Below w.heap.size w w'):PmJ B b O pw cw ws S an fn k w':=h.read (h.rd.below hb) (But.of_below _ hb) h.le
theorem Pm.cell0 (h:Pm B b O pw cw ws S k w) (n:Int):Pm B b O pw cw ws { S with p:={ S.p with width:=n } } k (w.setCell ⟨b,0,none⟩ (.int .i64 n)):=by
 have hs:=(h.rs.but ((But.refl (fun i=>i=b) w).setC (i:=0) (.int .i64 n) (.inl rfl)))
 exact ⟨⟨h.rd.box.set 0 _,h.rd.row.keep fun i hi=>⟨hi,heap_ot (Nat.ne_of_lt hi) _⟩⟩,⟨hs.ow,hs.ch,hs.ar,hs.fu,hs.mn,hs.an,hs.fn,hs.lb,hs.st⟩,h.ge,h.le⟩
theorem Pm.cell12 (h:Pm B b O pw cw ws S k w) (n:Nat):Pm B b O pw cw ws { S with step:=n } k (w.setCell ⟨b,12,none⟩ (.int .i64 (n:Int))):=by
 have hs:=(h.rs.but ((But.refl (fun i=>i=b) w).setC (i:=12) (.int .i64 (n:Int)) (.inl rfl)))
 exact ⟨⟨h.rd.box.set 12 _,h.rd.row.keep fun i hi=>⟨hi,heap_ot (Nat.ne_of_lt hi) _⟩⟩,⟨hs.ow,hs.ch,hs.ar,hs.fu,hs.mn,hs.an,hs.fn,hs.lb,hs.st⟩,h.ge,h.le⟩
theorem Pm.cell9 (h:Pm B b O pw cw ws S k w):Pm B b (upd O 9 (.slice none 0 0)) pw cw ws { S with labels:=[] } k (w.setCell ⟨b,9,none⟩ (.slice none 0 0)):=by
 have hbn:But (fun i=>i=b) w (w.setCell ⟨b,9,none⟩ (.slice none 0 0)):=(But.refl _ _).setC _ (.inl rfl)
 have ho:Owns b (upd O 9 (.slice none 0 0)) w:=⟨fun i j q hij hi=>by
   by_cases h1:i=9
   ·subst h1;rw [upd_eq] at hi;cases hi
   ·rw [upd_ne O _ h1] at hi
    by_cases h2:j=9
    ·subst h2;rw [upd_eq];intro e;cases e
    ·rw [upd_ne O _ h2];exact h.rs.ow.ne i j q hij hi,fun i q hi=>by
   by_cases h1:i=9
   ·subst h1;rw [upd_eq] at hi;cases hi
   ·rw [upd_ne O _ h1] at hi;exact h.rs.ow.lt i q hi⟩
 have hF:∀ q,Fin' b O w q->Fin' b (upd O 9 (.slice none 0 0)) w q/\w.heap[q]?=w.heap[q]?:=fun q hq=>⟨⟨hq.1,hq.2.1,fun i=>by
  by_cases h1:i=9
  ·subst h1;rw [upd_eq];intro e;cases e
  ·rw [upd_ne O _ h1];exact hq.2.2 i⟩,rfl⟩
 have hfu:FuR b (upd O 9 (.slice none 0 0)) w S.inn S.p.funcs:=by
  obtain ⟨css,h1,h2⟩:=h.rs.fu
  refine ⟨css,h1,?_⟩
  rcases h2 with ⟨e,cs0,gs,f,pv,e1,e2,g1,g2,g3⟩ | ⟨e,e1,g1⟩
  ·exact .inl ⟨e,cs0,gs,f,pv,e1,e2,g1.keep hF,g2.keep hF,g3.keep hF fun _ _=>rfl⟩
  ·exact .inr ⟨e,e1,g1.keep hF⟩
 have hps:PsR b w (upd O 9 (.slice none 0 0)) { S with labels:=[] }:=⟨ho,h.rs.ch.keep hF (fun _ _=>rfl),h.rs.ar.keep hF (fun _ _=>rfl),hfu,h.rs.mn.keep hF (fun _ _=>rfl),h.rs.an.keep hF (fun _ _=>rfl),h.rs.fn.keep hF (fun _ _=>rfl),GR.nil _ _ _ _ _,h.rs.st.keep hF (fun _ _=>rfl)⟩
 exact ⟨⟨h.rd.box.set 9 _,h.rd.row.keep fun i hi=>⟨hi,heap_ot (Nat.ne_of_lt hi) _⟩⟩,hps.but hbn,h.ge,h.le⟩
end
theorem PmJ.grow1 {B b:Nat} {O:Nat->Value} {pw:Option Addr} {cw:Nat} {ws:List Wd} {S:PS} {k:Nat} {w w8 w9:World} {an fn:List Bs} {v':Value} {R:Nat->Prop} {l':List Bs} (h:PmJ B b O pw cw ws S an fn k w) (hb:Below w.heap.size w w8) (hg:w8.grownBy w9 (O 1).ownBlock) (hm:Moved w8 (O 1) v') (hgr:GR kStr R b 9 w9 v' l') :
  PmJ B b (upd O 1 v') pw cw ws { S with p:={ S.p with chans:=l' } } an fn k (w9.setCell ⟨b,1,none⟩ v')/\Step b O 1 w (w9.setCell ⟨b,1,none⟩ v')/\Moved w (O 1) v':=by
 obtain ⟨h1,h2,h3,h4⟩:=h.grow (c:=1) hb hg hm (fun i hi=>(hgr.lt i hi).2)
 refine ⟨⟨⟨((h.rd.box.bel hb).keep (hg.block b (Nat.lt_of_lt_of_le h.lt hb.size) fun e=>h.own 1 e.symm)).set 1 v',h4⟩,h2,?_,h.ar.stay h.ow h1 h3 (by decide),h.fu.stay h.ow h1 h3 (by decide) (by decide),h.mn.stay h.ow h1 h3 (by decide),h.an.stay h.ow h1 h3 (by decide),h.fn.stay h.ow h1 h3 (by decide),h.lb.stay h.ow h1 h3 (by decide),h.st.stay h.ow h1 h3 (by decide),h.ge,h.le⟩,h1,h3⟩
 rw [upd_eq]
 exact GR.str (GR.keep (R':=fun _=>False) (GR.str (R':=fun _=>False) hgr) (fun k hk=>hk.elim) (fun i hi=>heap_ot (by have:=(hgr.lt i hi).1;intro e;subst e;exact GR.neb hgr h2 (upd_eq O 1 v') hi) _))
theorem PmJ.grow7 {B b:Nat} {O:Nat->Value} {pw:Option Addr} {cw:Nat} {ws:List Wd} {S:PS} {k:Nat} {w w8 w9:World} {an fn:List Bs} {v':Value} {R:Nat->Prop} {l':List Bs} (h:PmJ B b O pw cw ws S an fn k w) (hb:Below w.heap.size w w8) (hg:w8.grownBy w9 (O 7).ownBlock) (hm:Moved w8 (O 7) v') (hgr:GR kStr R b 9 w9 v' l') :
  PmJ B b (upd O 7 v') pw cw ws S l' fn k (w9.setCell ⟨b,7,none⟩ v')/\Step b O 7 w (w9.setCell ⟨b,7,none⟩ v')/\Moved w (O 7) v':=by
 obtain ⟨h1,h2,h3,h4⟩:=h.grow (c:=7) hb hg hm (fun i hi=>(hgr.lt i hi).2)
 refine ⟨⟨⟨((h.rd.box.bel hb).keep (hg.block b (Nat.lt_of_lt_of_le h.lt hb.size) fun e=>h.own 7 e.symm)).set 7 v',h4⟩,h2,h.ch.stay h.ow h1 h3 (by decide),h.ar.stay h.ow h1 h3 (by decide),h.fu.stay h.ow h1 h3 (by decide) (by decide),h.mn.stay h.ow h1 h3 (by decide),?_,h.fn.stay h.ow h1 h3 (by decide),h.lb.stay h.ow h1 h3 (by decide),h.st.stay h.ow h1 h3 (by decide),h.ge,h.le⟩,h1,h3⟩
 rw [upd_eq]
 exact GR.str (GR.keep (R':=fun _=>False) (GR.str (R':=fun _=>False) hgr) (fun k hk=>hk.elim) (fun i hi=>heap_ot (by have:=(hgr.lt i hi).1;intro e;subst e;exact GR.neb hgr h2 (upd_eq O 7 v') hi) _))
theorem PmJ.grow8 {B b:Nat} {O:Nat->Value} {pw:Option Addr} {cw:Nat} {ws:List Wd} {S:PS} {k:Nat} {w w8 w9:World} {an fn:List Bs} {v':Value} {R:Nat->Prop} {l':List Bs} (h:PmJ B b O pw cw ws S an fn k w) (hb:Below w.heap.size w w8) (hg:w8.grownBy w9 (O 8).ownBlock) (hm:Moved w8 (O 8) v') (hgr:GR kStr R b 9 w9 v' l') :
  PmJ B b (upd O 8 v') pw cw ws S an l' k (w9.setCell ⟨b,8,none⟩ v')/\Step b O 8 w (w9.setCell ⟨b,8,none⟩ v')/\Moved w (O 8) v':=by
 obtain ⟨h1,h2,h3,h4⟩:=h.grow (c:=8) hb hg hm (fun i hi=>(hgr.lt i hi).2)
 refine ⟨⟨⟨((h.rd.box.bel hb).keep (hg.block b (Nat.lt_of_lt_of_le h.lt hb.size) fun e=>h.own 8 e.symm)).set 8 v',h4⟩,h2,h.ch.stay h.ow h1 h3 (by decide),h.ar.stay h.ow h1 h3 (by decide),h.fu.stay h.ow h1 h3 (by decide) (by decide),h.mn.stay h.ow h1 h3 (by decide),h.an.stay h.ow h1 h3 (by decide),?_,h.lb.stay h.ow h1 h3 (by decide),h.st.stay h.ow h1 h3 (by decide),h.ge,h.le⟩,h1,h3⟩
 rw [upd_eq]
 exact GR.str (GR.keep (R':=fun _=>False) (GR.str (R':=fun _=>False) hgr) (fun k hk=>hk.elim) (fun i hi=>heap_ot (by have:=(hgr.lt i hi).1;intro e;subst e;exact GR.neb hgr h2 (upd_eq O 8 v') hi) _))
theorem PmJ.grow2 {B b:Nat} {O:Nat->Value} {pw:Option Addr} {cw:Nat} {ws:List Wd} {S:PS} {k:Nat} {w w8 w9:World} {an fn:List Bs} {v':Value} {R:Nat->Prop} {l':List Ar} (h:PmJ B b O pw cw ws S an fn k w) (hb:Below w.heap.size w w8) (hg:w8.grownBy w9 (O 2).ownBlock) (hm:Moved w8 (O 2) v') (hgr:GR kAr R b 87 w9 v' l') :
  PmJ B b (upd O 2 v') pw cw ws { S with p:={ S.p with arrays:=l' } } an fn k (w9.setCell ⟨b,2,none⟩ v')/\Step b O 2 w (w9.setCell ⟨b,2,none⟩ v')/\Moved w (O 2) v':=by
 obtain ⟨h1,h2,h3,h4⟩:=h.grow (c:=2) hb hg hm (fun i hi=>(hgr.lt i hi).2)
 refine ⟨⟨⟨((h.rd.box.bel hb).keep (hg.block b (Nat.lt_of_lt_of_le h.lt hb.size) fun e=>h.own 2 e.symm)).set 2 v',h4⟩,h2,h.ch.stay h.ow h1 h3 (by decide),?_,h.fu.stay h.ow h1 h3 (by decide) (by decide),h.mn.stay h.ow h1 h3 (by decide),h.an.stay h.ow h1 h3 (by decide),h.fn.stay h.ow h1 h3 (by decide),h.lb.stay h.ow h1 h3 (by decide),h.st.stay h.ow h1 h3 (by decide),h.ge,h.le⟩,h1,h3⟩
 rw [upd_eq]
 exact GR.arr (GR.keep (R':=fun _=>False) (GR.arr (R':=fun _=>False) hgr) (fun k hk=>hk.elim) (fun i hi=>heap_ot (by have:=(hgr.lt i hi).1;intro e;subst e;exact GR.neb hgr h2 (upd_eq O 2 v') hi) _))
def widthD (S:PS) (f:Int × Int) (r:List Wd):PE PS:=do
 let (n,q) <- numberP f 64 r
 endP q
 pure { S with p:={ S.p with width:=(n:Int) },step:=1 }
def chanD (S:PS) (f:Int × Int) (r:List Wd):PE PS:=do
 needM (decide (S.p.chans.length<32)) f 5
 let (s,q) <- freshP f S.p.chans r
 endP q
 pure { S with p:={ S.p with chans:=S.p.chans++[s] } }
def arrayD (S:PS) (f:Int × Int) (r:List Wd):PE PS:=do
 needM (decide (S.p.arrays.length<32)) f 5
 let (s,q) <- freshP f (anamesP S.p) r
 let (n,q) <- numberP f 64 q
 endP q
 pure { S with p:={ S.p with arrays:=S.p.arrays++[⟨s,(n:Int)⟩] },step:=2 }
def funcD (S:PS) (f:Int × Int) (r:List Wd):PE PS:=do
 needM (decide (S.p.funcs.length<32)) f 5
 let (s,q) <- freshP f (S.p.funcs.map Fu.nm) r
 let l <- paramsP f [] q
 pure { S with p:={ S.p with funcs:=S.p.funcs++[⟨s,l,[],f⟩] },step:=3,inn:=1,labels:=[] }
def mainD (S:PS) (r:List Wd):PE PS:=do
 endP r
 pure { S with inn:=2,labels:=[] }
theorem declareP_eq (S:PS) (w:Wd) (r:List Wd):declareP S w r=if w.1=kWidth/\S.step=0 then widthD S (wpos w) r else if w.1=kChan/\S.step=1 then chanD S (wpos w) r else if w.1=kArray/\1<=S.step/\S.step<=2 then arrayD S (wpos w) r
  else if w.1=kFunc/\1<=S.step then funcD S (wpos w) r else if w.1=kMain/\1<=S.step then mainD S r else .error (wpos w,4):=rfl
theorem pwidth_any {B b:Nat} {O:Nat->Value} {pw:Option Addr} {cw:Nat} {ws:List Wd} {S:PS} {k:Nat} {w:World} (hp:Pm B b O pw cw ws S k w) (hw:WOk ws) (hok:SOk S):Calls Tryz.prog 179 #[.pointer (some ⟨b,0,none⟩)] w (InsP B b pw cw ws (widthD S (fpos ws) (ws.drop k)) w):=by
 have hd:=hp.rd
 have hk:=hp.le
 have hB:=hp.ge
 have HPM:=hid hp;have HOK:=hid hok
 clear hp hok
 have HD:=hid hd;have HW:=hid hw;have HBB:=hid hB;have HLE:=hid hk;have HSZ:=hid hd.box.lt
 have HBZ:=hid (show B<=w.heap.size from Nat.le_of_lt (Nat.lt_of_le_of_lt hB hd.box.lt))
 clear hd hw hB hk
 go_enter Tryz.func179,Tryz.ntmps179
 have HNUM:=hid (show Calls Tryz.prog 213 #[.pointer (some ⟨b,0,none⟩),.int .u64 64] w _ from pnumber_any 64 lrf HD.out HLE.out HW.out HBB.out)
 go_upto_region 1 with (go_at_call 213;(with_reducible refine HNUM.out.mono ?_);rintro e w1 ⟨hb,⟨f1,hm,rfl⟩ | ⟨n,k1,v,hm,hk,rfl,hv,hd,hn⟩⟩;(focus (exact ⟨rfl,hb,.inl ⟨f1,by unfold widthD;rw [hm];rfl,rfl⟩⟩));obtain rfl:v=.int .i64 (n:Int):=hv;have HM1:=hid hm;have HP1:=hid (HPM.out.read hd hn hk);have HB1:=hid hb;have c0:=hd.box.at 0 rfl;have f0:=hd.box.fr 0;clear hb hm hk hd hn)
 generalize hw:World.setCell _ _ _=w2
 have HP2:=hid (show Pm B b O pw cw ws { S with p:={ S.p with width:=(n:Int) } } k1 w2 from by rw [<- hw];exact HP1.cell0 _)
 have HB2:=hid (show Below B w w2 from by rw [<- hw];exact HB1.setCell (p:=⟨b,0,none⟩) HBB.out _)
 clear hw c0 f0
 go_upto_region 2 with (go_at_call 146;(with_reducible refine (pend_any HP2.out.rd HP2.out.le HW.out HBB.out).mono ?_);rintro e w3 ⟨hb,⟨f1,hm,rfl⟩ | ⟨hm,hnil,rfl,hd,hn⟩⟩;(focus (exact ⟨rfl,HB2.out.trans hb,.inl ⟨f1,by (unfold widthD;rw [HM1.out];simp only [bind,Except.bind];rw [hm]),rfl⟩⟩));have HM3:=hid hm;have HP3:=hid (HP2.out.read hd hn HP2.out.le);have HB3:=hid (HB2.out.trans hb);have c12:=hd.box.at 12 rfl;have f12:=hd.box.fr 12;clear hb hm hnil hd hn)
 go_wp2_with fail
 first | go_end0 | refine bodyPost_ret (results_none rfl _ _ _) rfl ?_
 exact ⟨HB3.setCell (p:=⟨b,12,none⟩) HBB.out _,.inr ⟨_,O,k1,by (unfold widthD;rw [HM1.out];simp only [bind,Except.bind];rw [HM3.out];rfl),rfl,HP3.cell12 1⟩⟩
theorem pmain_any {B b:Nat} {O:Nat->Value} {pw:Option Addr} {cw:Nat} {ws:List Wd} {S:PS} {k:Nat} {w:World} (hp:Pm B b O pw cw ws S k w) (hw:WOk ws) (hok:SOk S) (hin:S.inn=0):Calls Tryz.prog 183 #[.pointer (some ⟨b,0,none⟩)] w (InsP B b pw cw ws (mainD S (ws.drop k)) w):=by
 have hd:=hp.rd
 have hk:=hp.le
 have hB:=hp.ge
 have HPM:=hid hp;have HOK:=hid hok
 clear hp hok
 have HD:=hid hd;have HW:=hid hw;have HBB:=hid hB;have HLE:=hid hk;have HSZ:=hid hd.box.lt
 have HBZ:=hid (show B<=w.heap.size from Nat.le_of_lt (Nat.lt_of_le_of_lt hB hd.box.lt))
 clear hd hw hB hk
 have HIN:=hid hin
 clear hin
 go_enter Tryz.func183,Tryz.ntmps183
 go_upto_region 1 with (go_at_call 146;(with_reducible refine (pend_any HD.out HLE.out HW.out HBB.out).mono ?_);rintro e w1 ⟨hb,⟨f1,hm,rfl⟩ | ⟨hm,hnil,rfl,hd,hn⟩⟩;(focus (exact ⟨rfl,hb,.inl ⟨f1,by (unfold mainD;rw [hm];rfl),rfl⟩⟩));have HM1:=hid hm;have HP1:=hid (HPM.out.read hd hn HLE.out);have HB1:=hid hb;have c11:=hd.box.at 11 rfl;have f11:=hd.box.fr 11;have c9:=hd.box.at 9 rfl;have f9:=hd.box.fr 9;clear hb hm hnil hd hn)
 go_wp2_with fail
 first | go_end0 | refine bodyPost_ret (results_none rfl _ _ _) rfl ?_
 obtain ⟨O',hp'⟩:=HP1.close HOK.out 2 (by decide)
 have hp9:=hp'.cell9
 have hb2:Below B w ((w1.setCell ⟨b,11,none⟩ (.int .i64 2)).setCell ⟨b,9,none⟩ (.slice none 0 0)):=(HB1.setCell (p:=⟨b,11,none⟩) HBB.out _).setCell (p:=⟨b,9,none⟩) HBB.out _
 exact ⟨hb2,.inr ⟨_,_,k,by (unfold mainD;rw [HM1.out];rfl),rfl,hp9⟩⟩
end Go.Proofs.YtoofbgoeipijcaaGreatDoor
