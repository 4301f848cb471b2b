/-
 A part.
-/
import Derived.Test.YtoofbgoeipijcaaGreatDoorVSPkY
namespace Go.Proofs.YtoofbgoeipijcaaGreatDoor
set_option linter.all false
open Go.RowKit Go.Shelf
attribute [local go_sem] Oper.semAt_some
def InU (w:World) (u:Value) (x:In) (w':World) (v:Value):Prop :=
 ∃ pa ca,v=.agg #[.int .u8 (x.kind:Int),.int .u8 (x.op:Int),.string ⟨x.dst.toArray⟩,.string ⟨x.nm.toArray⟩,.slice pa x.args.length ca,.int .i64 x.pos.1,.int .i64 x.pos.2]/\SlG kAg (fun i=>w.heap.size<=i/\i<w'.heap.size/\u.ownBlock ≠ some i) w' (.slice pa x.args.length ca) x.args
def AsP (B b:Nat) (O:Nat->Value) (pw:Option Addr) (cw:Nat) (ws:List Wd) (S:PS) (k:Nat) (w:World) (m:PE (In × List Bs × List Wd)) (e:Ending) (w':World):Prop :=
 Below B w w'/\((∃ f,m=.error f/\e=.panicked (fltP f))\/∃ x k' v' sites v,m=.ok (x,sites,ws.drop k')/\sites.length<=32/\e=.returned v/\InU w v' x w' v/\Pm B b (upd O 10 v') pw cw ws { S with sites:=sites } k' w'/\Step b O 10 w w'/\Moved w (O 10) v')
def loadA (st:PS) (f:Int × Int) (dst:Bs) (q:List Wd):PE (In × List Bs × List Wd):=do
 let (s,q) <- knownP f (anamesP st.p) q
 let (l,q) <- operandsP f 1 q
 pure ({ in0 with kind:=2,dst:=dst,nm:=s,args:=l },st.sites,q)
def releaseA (st:PS) (f:Int × Int) (dst:Bs) (q:List Wd):PE (In × List Bs × List Wd):=do
 let (s,sites,q) <- siteP f st.sites q
 let (l,q) <- operandsP f 1 q
 pure ({ in0 with kind:=7,dst:=dst,nm:=s,args:=l },sites,q)
def callA (st:PS) (f:Int × Int) (dst:Bs) (q:List Wd):PE (In × List Bs × List Wd):=do
 let (w,q) <- nameP f q
 let l <- restP f 0 q
 pure ({ in0 with kind:=4,dst:=dst,nm:=w.1,args:=l },st.sites,[])
def opA (st:PS) (f:Int × Int) (dst:Bs) (o:Nat) (q:List Wd):PE (In × List Bs × List Wd):=do
 let (l,q) <- operandsP f (arityM o) q
 pure ({ in0 with kind:=1,op:=o,dst:=dst,args:=l },st.sites,q)
def copyA (st:PS) (f:Int × Int) (dst:Bs) (q:List Wd):PE (In × List Bs × List Wd):=do
 let (l,q) <- operandsP f 1 q
 pure ({ in0 with dst:=dst,args:=l },st.sites,q)
def assign2 (st:PS) (f:Int × Int) (dst:Bs) (r:List Wd) (v:Wd) (q:List Wd):PE (In × List Bs × List Wd) :=
 if v.1=kLoad then loadA st f dst q
 else if v.1=kRelease then releaseA st f dst q
 else if v.1=kCall then callA st f dst q
 else if (opB v.1 && decide (opL.idxOf v.1+2 ≠ 21))=true then opA st f dst (opL.idxOf v.1+2) q
 else copyA st f dst r
theorem assignP_eq {st:PS} {f:Int × Int} {dst:Bs} {ws r q:List Wd} {a v:Wd} (h1:nextP f ws=.ok (a,r)) (h2:a.1=[61]) (h3:nextP f r=.ok (v,q)):assignP st f dst ws=assign2 st f dst r v q:=by
 unfold assignP assign2
 rw [h1]
 simp only [bind,Except.bind,needM,h2,decide_true,if_true,h3]
 rfl
theorem assignP_e1 {st:PS} {f:Int × Int} {dst:Bs} {ws:List Wd} {g:Flt} (h1:nextP f ws=.error g):assignP st f dst ws=.error g:=by unfold assignP;rw [h1];rfl
theorem assignP_e2 {st:PS} {f:Int × Int} {dst:Bs} {ws r:List Wd} {a:Wd} (h1:nextP f ws=.ok (a,r)) (h2:¬ a.1=[61]):assignP st f dst ws=.error (wpos a,4):=by
 unfold assignP;rw [h1];simp only [bind,Except.bind,needM,decide_eq_false h2];rfl
theorem assignP_e3 {st:PS} {f:Int × Int} {dst:Bs} {ws r:List Wd} {a:Wd} {g:Flt} (h1:nextP f ws=.ok (a,r)) (h2:a.1=[61]) (h3:nextP f r=.error g):assignP st f dst ws=.error g:=by
 unfold assignP;rw [h1];simp only [bind,Except.bind,needM,h2,decide_true,if_true,h3]
theorem Pm.step10 {B b:Nat} {O:Nat->Value} {pw:Option Addr} {cw:Nat} {ws:List Wd} {S:PS} {k k':Nat} {w w':World} {v':Value} {R:Nat->Prop} {l':List Bs} (h:Pm B b O pw cw ws S k w) (hs:Step b O 10 w w') (hm:Moved w (O 10) v') (hg:GR kStr R b 9 w' v' l')
  (hd:Rd b (upd O 10 v') S.p.width pw cw S.inn S.step ws k' w') (hk:k'<=ws.length):Pm B b (upd O 10 v') pw cw ws { S with sites:=l' } k' w':=by
 have h2:=h.rs.ow.moved hm hs.size h.lt (fun i hi=>(hg.lt i hi).2)
 exact ⟨hd,⟨h2,h.rs.ch.stay h.rs.ow hs hm (by decide),h.rs.ar.stay h.rs.ow hs hm (by decide),h.rs.fu.stay h.rs.ow hs hm (by decide) (by decide),h.rs.mn.stay h.rs.ow hs hm (by decide),h.rs.an.stay h.rs.ow hs hm (by decide),h.rs.fn.stay h.rs.ow hs hm (by decide),h.rs.lb.stay h.rs.ow hs hm (by decide),by rw [upd_eq];exact hg.str⟩,h.ge,hk⟩
theorem arity_le (o:Nat):arityM o<=3:=by unfold arityM;split;omega;split;omega;split <;> omega
theorem next_pos {f:Int × Int} {ws:List Wd} {k k':Nat} {a:Wd} (h:nextP f (ws.drop k)=.ok (a,ws.drop k')) (hk:k<=ws.length) (hk':k'<=ws.length):k'=k+1:=by
 cases hd:ws.drop k with
 | nil=>rw [hd] at h;cases h
 | cons x q =>
  rw [hd] at h
  simp only [nextP,Except.ok.injEq,Prod.mk.injEq] at h
  have h1:=congrArg List.length hd
  have h2:=congrArg List.length h.2
  simp only [List.length_drop,List.length_cons] at h1 h2
  omega
def appR (l:List Ag):PE (List Ag)->PE (List Ag)
 | .error e => .error e
 | .ok q => .ok (l++q)
theorem appR_nil (m:PE (List Ag)):appR [] m=m:=by cases m <;> rfl
def callM (st:PS) (dst s:Bs):PE (List Ag)->PE (In × List Bs × List Wd)
 | .error e => .error e
 | .ok l => .ok ({ in0 with kind:=4,dst:=dst,nm:=s,args:=l },st.sites,[])
theorem operandP_one {f:Int × Int} {x:Wd} {r q:List Wd} {a:Ag} (h:operandP f (x :: r)=.ok (a,q)):operandP f [x]=.ok (a,[])/\q=r:=by
 rw [operandP_eq (N:=(numR x.1).1) (E:=(numR x.1).2) (a:=x) (r:=r) rfl rfl] at h
 rw [operandP_eq (N:=(numR x.1).1) (E:=(numR x.1).2) (a:=x) (r:=[]) rfl rfl]
 split at h
 ·rename_i h1
  rw [if_pos h1]
  split at h
  ·rename_i h2;rw [if_pos h2];cases h;exact ⟨rfl,rfl⟩
  ·cases h
 ·rename_i h1
  rw [if_neg h1]
  split at h
  ·rename_i h2;rw [if_pos h2];cases h;exact ⟨rfl,rfl⟩
  ·cases h
theorem operandP_oneE {f:Int × Int} {x:Wd} {r:List Wd} {g:Flt} (h:operandP f (x :: r)=.error g):operandP f [x]=.error g:=by
 rw [operandP_eq (N:=(numR x.1).1) (E:=(numR x.1).2) (a:=x) (r:=r) rfl rfl] at h
 rw [operandP_eq (N:=(numR x.1).1) (E:=(numR x.1).2) (a:=x) (r:=[]) rfl rfl]
 split at h
 ·rename_i h1
  rw [if_pos h1]
  split at h
  ·cases h
  ·rename_i h2;rw [if_neg h2];exact h
 ·rename_i h1
  rw [if_neg h1]
  split at h
  ·cases h
  ·rename_i h2;rw [if_neg h2];exact h
theorem rest_long {f:Int × Int} {n:Nat} {x:Wd} {r:List Wd} (l:List Ag) (h:¬ n<32):appR l (restP f n (x :: r))=.error (wpos x,5):=by
 rw [restP];simp only [needM,decide_eq_false h];rfl
theorem rest_err {f:Int × Int} {n:Nat} {x:Wd} {r:List Wd} {g:Flt} (l:List Ag) (h:n<32) (ho:operandP f (x :: r)=.error g):appR l (restP f n (x :: r))=.error g:=by
 rw [restP];simp only [needM,decide_eq_true h,if_true,bind,Except.bind,operandP_oneE ho];rfl
theorem rest_ok {f:Int × Int} {n:Nat} {x:Wd} {r q:List Wd} {a:Ag} (l:List Ag) (h:n<32) (ho:operandP f (x :: r)=.ok (a,q)):appR l (restP f n (x :: r))=appR (l++[a]) (restP f (n+1) q):=by
 obtain ⟨h1,rfl⟩:=operandP_one ho
 rw [restP];simp only [needM,decide_eq_true h,if_true,bind,Except.bind,h1]
 cases restP f (n+1) q with
 | error e=>rfl
 | ok p=>simp [appR,pure,Except.pure]
theorem But.only {b c:Nat} {w w1 w2:World} (h:But (fun i=>i=b) w w1) (g:But (fun i=>i=b\/i=c) w1 w2) (hc:w.heap.size<=c:=by exact Nat.le_refl _):But (fun i=>i=b) w w2 :=
 ⟨g.os.trans h.os,g.tape.trans h.tape,g.output.trans h.output,Nat.le_trans h.size g.size,fun k hk hb=>(g.block k (Nat.lt_of_lt_of_le hk h.size) (fun e=>by rcases e with e | e;exact hb e;omega)).trans (h.block k hk hb)⟩
theorem operand_pos {f:Int × Int} {ws:List Wd} {k k':Nat} {x:Wd} {a:Ag} (h:operandP f (x :: ws.drop (k+1))=.ok (a,ws.drop k')) (hx:ws.drop k=x :: ws.drop (k+1)) (hk:k<=ws.length) (hk':k'<=ws.length):k'=k+1:=by
 have h2:=congrArg List.length (operandP_one h).2
 have h1:=congrArg List.length hx
 simp only [List.length_drop,List.length_cons] at h1 h2
 omega
theorem of_tab:∀ s ∈ opL,ofM s=(opL.idxOf s+2,0)/\opL.idxOf s+2<=21:=by decide
theorem of_op {s:Bs} {o1:Nat} {o2:Int} (h:opB s=true) (ho:ofM s=(o1,o2)):o1=opL.idxOf s+2/\o2=0/\o1<=21:=by
 have hm:s ∈ opL:=by unfold opB at h;simpa using h
 obtain ⟨h1,h2⟩:=of_tab s hm
 rw [h1] at ho
 cases ho
 exact ⟨rfl,rfl,h2⟩
theorem of_no {s:Bs} {o1:Nat} {o2:Int} (h:¬ (opB s && decide (opL.idxOf s+2 ≠ 21))=true) (ho:ofM s=(o1,o2)):(o2 == 0)=false\/((o2 == 0)=true/\((o1:Int) != 21)=false):=by
 cases hb:opB s with
 | false =>
  left
  have:=ofM_err s
  rw [ho,hb] at this
  simp only [bne,Bool.not_false] at this
  revert this;cases (o2 == 0) <;> simp
 | true =>
  right
  obtain ⟨h1,h2,h3⟩:=of_op hb ho
  rw [hb] at h
  subst h2
  refine ⟨rfl,?_⟩
  simp at h
  rw [h1,h];rfl
set_option maxRecDepth 100000 in
set_option maxHeartbeats 4000000 in
theorem passign_any {B b:Nat} {O:Nat->Value} {pw:Option Addr} {cw:Nat} {ws:List Wd} {S:PS} {k:Nat} {w:World} (dst:Bs) (hp:Pm B b O pw cw ws S k w) (hw:WOk ws) (hok:SOk S):Calls Tryz.prog 152 #[.pointer (some ⟨b,0,none⟩),.string ⟨dst.toArray⟩] w (AsP B b O pw cw ws S k w (assignP S (fpos ws) dst (ws.drop k))):=by
 have hd:=hp.rd
 have hk:=hp.le
 have hB:=hp.ge
 have HPM:=hid hp;have HOK:=hid hok
 clear hp hok
 have HD:=hid hd;have HW:=hid hw;have HBB:=hid hB;have HLE:=hid hk;have HSZ:=hid hd.box.lt
 have HBZ:=hid (show B<=w.heap.size from Nat.le_of_lt (Nat.lt_of_le_of_lt hB hd.box.lt))
 clear hd hw hB hk
 have hfd:∀ (s:ByteArray) (x y:Value) (W:World),(Instr.field 128 (.agg #[.string s,x,y]) 0).run Tryz.prog W=.ok (.string s) W:=fun _ _ _ _=>by kernel_rfl
 go_enter Tryz.func152,Tryz.ntmps152
 go_upto_region 1 with fail
 obtain ⟨w1,hw1⟩:∃ W,w.alloc (.cells #[.int .u8 0,.int .u8 0,.string ⟨#[]⟩,.string ⟨#[]⟩,.slice none 0 0,.int .i64 0,.int .i64 0] 41)=W:=⟨_,rfl⟩
 have HN1:=hid (show But (fun i=>i=b) w w1 from by rw [<- hw1];exact (But.refl _ _).al _)
 have HT1:=hid (show BxL 41 w.heap.size [.int .u8 0,.int .u8 0,.string ⟨#[]⟩,.string ⟨#[]⟩,.slice none 0 0,.int .i64 0,.int .i64 0] w1 from by rw [<- hw1];exact BxL.new _ _ _)
 have HD1:=hid (show Rd b O S.p.width pw cw S.inn S.step ws k w1 from by rw [<- hw1];exact HD.al _)
 rw [hw1]
 clear hw1
 go_upto_region 2 with (go_at_call 144;(with_reducible refine (next_any HD1.out HLE.out HW.out HBB.out).mono ?_);rintro e w2 ⟨hb,⟨f1,hm,rfl⟩ | ⟨a,k1,v,hm,hk,rfl,hv,hd,hn⟩⟩;(focus (exact ⟨rfl,(HN1.out.below HBZ.out (fun i e=>e ▸ HBB.out)).trans hb,.inl ⟨f1,assignP_e1 hm,rfl⟩⟩));obtain rfl:v=.agg #[.string ⟨a.1.toArray⟩,.int .i64 (a.2.1:Int),.int .i64 (a.2.2:Int)]:=hv)
 have HM1:=hid hm;have HK1:=hid hk
 have HN2:=hid (HN1.trans hn);have HT2:=hid (HT1.but hn (by have:=HSZ.out;omega))
 clear hb hm hk hn
 generalize hw3:World.alloc w2 _=w3
 have hX3:BxL 128 w2.heap.size [.string ⟨a.1.toArray⟩,.int .i64 (a.2.1:Int),.int .i64 (a.2.2:Int)] w3:=by rw [<- hw3];exact BxL.new _ _ _
 have HD3:=hid (show Rd b O S.p.width pw cw S.inn S.step ws k1 w3 from by rw [<- hw3];exact hd.al _)
 have HN3:=hid (show But (fun i=>i=b) w w3 from by rw [<- hw3];exact HN2.al _)
 have HT3:=hid (show BxL 41 w.heap.size [.int .u8 0,.int .u8 0,.string ⟨#[]⟩,.string ⟨#[]⟩,.slice none 0 0,.int .i64 0,.int .i64 0] w3 from by rw [<- hw3];exact HT2.al _)
 clear hw3 hd
 generalize hq:w2.heap.size=q at hX3 ⊢
 have HX3:=hid hX3
 have HQ:=hid (show w.heap.size<q from by rw [<- hq];exact HT2.lt)
 clear hq hX3
 obtain ⟨n0,n1,n2⟩:=HX3.p3
 go_upto_region 3 with (go_at_call 68;(with_reducible refine (pneed_any _ ((a.2.1:Int),(a.2.2:Int)) _ _).mono ?_);rintro e w4 ⟨hb,⟨hc,rfl⟩ | ⟨hc,rfl⟩⟩;rotate_left;(focus (exact ⟨rfl,(HN3.out.trans (But.of_below _ hb)).below HBZ.out (fun i e=>e ▸ HBB.out),.inl ⟨_,assignP_e2 HM1.out (by simpa using hc),rfl⟩⟩)))
 have HE1:=hid (show a.1=[61] from by simpa using hc)
 have HD4:=hid (HD3.below hb);have HN4:=hid (HN3.trans (But.of_below _ hb));have HT4:=hid (HT3.bel hb);have HX4:=hid (HX3.bel hb)
 clear hb hc n0 n1 n2
 go_upto_region 4 with (go_at_call 144;(with_reducible refine (next_any HD4.out HK1.out HW.out HBB.out).mono ?_);rintro e w5 ⟨hb,⟨f1,hm,rfl⟩ | ⟨c,k2,v,hm,hk,rfl,hv,hd,hn⟩⟩;(focus (exact ⟨rfl,(HN4.out.below HBZ.out (fun i e=>e ▸ HBB.out)).trans hb,.inl ⟨f1,assignP_e3 HM1.out HE1.out hm,rfl⟩⟩));obtain rfl:v=.agg #[.string ⟨c.1.toArray⟩,.int .i64 (c.2.1:Int),.int .i64 (c.2.2:Int)]:=hv;have HX5:=hid (HX4.out.but hn (by have:=HQ.out;have:=HSZ.out;omega));obtain ⟨n0,n1,n2⟩:=HX5.out.p3;have f0:=HX5.out.fr 0;have f1:=HX5.out.fr 1;have f2:=HX5.out.fr 2)
 have HM3:=hid hm;have HM2:=hid (assignP_eq (st:=S) (dst:=dst) HM1.out HE1.out hm);have HK2:=hid hk
 have HN5:=hid (HN4.trans hn);have HT5:=hid (HT4.but hn (by have:=HSZ.out;omega))
 clear hb hm hk hn
 generalize hw:World.setCell _ _ _=w6
 have HX6:=hid (show BxL 128 q [.string ⟨c.1.toArray⟩,.int .i64 (c.2.1:Int),.int .i64 (c.2.2:Int)] w6 from by rw [<- hw];exact ((HX5.set 0 _).set 1 _).set 2 _)
 have hbq:b<q:=by have:=HQ.out;have:=HSZ.out;omega
 have HD6:=hid (show Rd b O S.p.width pw cw S.inn S.step ws k2 w6 from by rw [<- hw];exact ((hd.other _ hbq).other _ hbq).other _ hbq)
 have hwq:w.heap.size<=q:=by have:=HQ.out;omega
 have HN6:=hid (show But (fun i=>i=b) w w6 from by rw [<- hw];exact ((HN5.setC _ (.inr hwq)).setC _ (.inr hwq)).setC _ (.inr hwq))
 have hwt:w.heap.size ≠ q:=by have:=HQ.out;omega
 have HT6:=hid (show BxL 41 w.heap.size [.int .u8 0,.int .u8 0,.string ⟨#[]⟩,.string ⟨#[]⟩,.slice none 0 0,.int .i64 0,.int .i64 0] w6 from by rw [<- hw];exact ((HT5.keep (heap_ot hwt _)).keep (heap_ot hwt _)).keep (heap_ot hwt _))
 clear hw hd hbq hwq hwt n0 n1 n2 f0 f1 f2
 obtain ⟨t0,t1,t2,t3,t4,t5,t6⟩:=HT6.p7
 have f2:=HT6.fr 2
 go_upto_region 5 with fail
 generalize hw:World.setCell _ _ _=w7
 have HT7:=hid (show BxL 41 w.heap.size [.int .u8 0,.int .u8 0,.string ⟨dst.toArray⟩,.string ⟨#[]⟩,.slice none 0 0,.int .i64 0,.int .i64 0] w7 from by rw [<- hw];exact HT6.set 2 _)
 have HD7:=hid (show Rd b O S.p.width pw cw S.inn S.step ws k2 w7 from by rw [<- hw];exact HD6.other _ HSZ.out)
 have HN7:=hid (show But (fun i=>i=b) w w7 from by rw [<- hw];exact HN6.setC _ (.inr lrf))
 have HX7:=hid (show BxL 128 q [.string ⟨c.1.toArray⟩,.int .i64 (c.2.1:Int),.int .i64 (c.2.2:Int)] w7 from by rw [<- hw];exact HX6.keep (heap_ot (by have:=HQ.out;omega) _))
 have HK7:=hid HK2.out
 clear hw t0 t1 t2 t3 t4 t5 t6 f2
 obtain ⟨n0,n1,n2⟩:=HX7.p3
 by_cases h:c.1=kLoad
 ·have HSEL:=hid (show assign2 S (fpos ws) dst (ws.drop k1) c (ws.drop k2)=loadA S (fpos ws) dst (ws.drop k2) from if_pos h)
  have g1:(c.1 == ([108,111,97,100]:Bs))=true:=by rw [h];rfl
  clear h
  go_upto_region 7 with fail
  clear n0 n1 n2
  obtain ⟨ps7,cs7,hO⟩:=HPM.rs.an.slc
  have HO7:=hid hO
  have HL7:=hid (show SlG kStr (fun i=>i<w7.heap.size/\i ≠ b) w7 (.slice ps7 (anamesP S.p).length cs7) (anamesP S.p) from by rw [<- hO];exact (HPM.read HD7.out HN7.out HK7.out).rs.an.slb (by have:=HOK.an;omega) (HPM.own 7))
  clear hO
  have c7:=HD7.box.at 7 rfl
  rw [HO7.out] at c7
  go_upto_region 8 with (go_at_call 195;(with_reducible refine (pknown_any HD7.out HK7.out HW.out HBB.out HL7.out (fun i hi=>hi)).mono ?_);rintro e w8 ⟨hb,⟨f1,hm,rfl⟩ | ⟨a8,k8,v,hm,hk,rfl,hv,hd,hn⟩⟩;(focus (exact ⟨rfl,(HN7.out.below HBZ.out (fun i e=>e ▸ HBB.out)).trans hb,.inl ⟨f1,by (rw [HM2.out,HSEL.out];unfold loadA;rw [hm];try rfl),rfl⟩⟩));obtain rfl:v=.string ⟨a8.toArray⟩:=hv;have HM8:=hid hm;have HK8:=hid hk;have HD8:=hid hd;have HN8:=hid (HN7.out.trans hn);have HT8:=hid (HT7.out.but hn (by have:=HSZ.out;omega));have HB8:=hid hn;clear hb hm hk hd hn;clear c7;obtain ⟨t0,t1,t2,t3,t4,t5,t6⟩:=HT8.out.p7;have f0:=HT8.out.fr 0;have f1:=HT8.out.fr 1;have f2:=HT8.out.fr 2;have f3:=HT8.out.fr 3;have f4:=HT8.out.fr 4;have f5:=HT8.out.fr 5;have f6:=HT8.out.fr 6)
  generalize hw:World.setCell _ _ _=w9
  have HT9:=hid (show BxL 41 w.heap.size [.int .u8 2,.int .u8 0,.string ⟨dst.toArray⟩,.string ⟨a8.toArray⟩,.slice none 0 0,.int .i64 0,.int .i64 0] w9 from by rw [<- hw];exact ((HT8.set 0 _).set 3 _))
  have HD9:=hid (show Rd b O S.p.width pw cw S.inn S.step ws k8 w9 from by rw [<- hw];exact ((HD8.other _ HSZ.out).other _ HSZ.out))
  have HN9:=hid (show But (fun i=>i=b) w w9 from by rw [<- hw];exact ((HN8.setC _ (.inr lrf)).setC _ (.inr lrf)))
  have HC9:=hid (show But (fun i=>i=w.heap.size) w8 w9 from by rw [<- hw];exact (((But.refl (fun i=>i=w.heap.size) w8).setC _ (.inl rfl)).setC _ (.inl rfl)))
  have HK9:=hid HK8.out
  clear hw t0 t1 t2 t3 t4 t5 t6 f0 f1 f2 f3 f4 f5 f6
  have HOP9:=hid (show Calls Tryz.prog 196 #[.pointer (some ⟨b,0,none⟩),.int .i64 1] w9 _ from poperands_any 1 (by decide) HD9.out HK9.out HW.out HBB.out)
  go_upto_region 9 with (go_at_call 196;(with_reducible refine HOP9.out.mono ?_);rintro e w10 ⟨hb,⟨f1,hm,rfl⟩ | ⟨a10,k10,v,hm,hk,rfl,hv,hd,hn⟩⟩;(focus (exact ⟨rfl,(HN9.out.below HBZ.out (fun i e=>e ▸ HBB.out)).trans hb,.inl ⟨f1,by (rw [HM2.out,HSEL.out];unfold loadA;rw [HM8.out];simp only [bind,Except.bind];rw [hm];try rfl),rfl⟩⟩));obtain ⟨hsl,hlen⟩:=hv;obtain ⟨pa,ca,hva⟩:=hsl.slc;subst hva;have HSL10:=hid hsl;have HLN:=hid hlen;obtain ⟨LN,hLN⟩:∃ n,a10.length=n:=⟨_,rfl⟩;rw [hLN] at HSL10 ⊢;have HLE10:=hid hLN;have HM10:=hid hm;have HK10:=hid hk;have HD10:=hid hd;have HN10:=hid (HN9.out.trans hn);have HT10:=hid (HT9.out.but hn (by have:=HSZ.out;omega));have HB10:=hid hn;clear hb hm hk hd hn;clear hsl hlen hLN;obtain ⟨t0,t1,t2,t3,t4,t5,t6⟩:=HT10.out.p7;have f0:=HT10.out.fr 0;have f1:=HT10.out.fr 1;have f2:=HT10.out.fr 2;have f3:=HT10.out.fr 3;have f4:=HT10.out.fr 4;have f5:=HT10.out.fr 5;have f6:=HT10.out.fr 6)
  generalize hw:World.setCell _ _ _=w11
  have HT11:=hid (show BxL 41 w.heap.size [.int .u8 2,.int .u8 0,.string ⟨dst.toArray⟩,.string ⟨a8.toArray⟩,.slice pa LN ca,.int .i64 0,.int .i64 0] w11 from by rw [<- hw];exact (HT10.set 4 _))
  have HD11:=hid (show Rd b O S.p.width pw cw S.inn S.step ws k10 w11 from by rw [<- hw];exact (HD10.other _ HSZ.out))
  have HN11:=hid (show But (fun i=>i=b) w w11 from by rw [<- hw];exact (HN10.setC _ (.inr lrf)))
  have HC11:=hid (show But (fun i=>i=w.heap.size) w10 w11 from by rw [<- hw];exact ((But.refl (fun i=>i=w.heap.size) w10).setC _ (.inl rfl)))
  have HK11:=hid HK10.out
  clear hw t0 t1 t2 t3 t4 t5 t6 f0 f1 f2 f3 f4 f5 f6
  obtain ⟨t0,t1,t2,t3,t4,t5,t6⟩:=HT11.p7
  have f0:=HT11.fr 0
  have f1:=HT11.fr 1
  have f2:=HT11.fr 2
  have f3:=HT11.fr 3
  have f4:=HT11.fr 4
  have f5:=HT11.fr 5
  have f6:=HT11.fr 6
  go_wp2_with fail
  generalize hw:World.setCell _ _ _=w12
  have HT12:=hid (show BxL 41 w.heap.size [.int .u8 2,.int .u8 0,.string ⟨dst.toArray⟩,.string ⟨a8.toArray⟩,.slice pa LN ca,.int .i64 0,.int .i64 0] w12 from by rw [<- hw];exact (((((((HT11.set 0 _).set 1 _).set 2 _).set 3 _).set 4 _).set 5 _).set 6 _))
  have HD12:=hid (show Rd b O S.p.width pw cw S.inn S.step ws k10 w12 from by rw [<- hw];exact (((((((HD11.other _ HSZ.out).other _ HSZ.out).other _ HSZ.out).other _ HSZ.out).other _ HSZ.out).other _ HSZ.out).other _ HSZ.out))
  have HN12:=hid (show But (fun i=>i=b) w w12 from by rw [<- hw];exact (((((((HN11.setC _ (.inr lrf)).setC _ (.inr lrf)).setC _ (.inr lrf)).setC _ (.inr lrf)).setC _ (.inr lrf)).setC _ (.inr lrf)).setC _ (.inr lrf)))
  have HC12:=hid (show But (fun i=>i=w.heap.size) w11 w12 from by rw [<- hw];exact ((((((((But.refl (fun i=>i=w.heap.size) w11).setC _ (.inl rfl)).setC _ (.inl rfl)).setC _ (.inl rfl)).setC _ (.inl rfl)).setC _ (.inl rfl)).setC _ (.inl rfl)).setC _ (.inl rfl)))
  clear hw t0 t1 t2 t3 t4 t5 t6 f0 f1 f2 f3 f4 f5 f6
  obtain ⟨t0,t1,t2,t3,t4,t5,t6⟩:=HT12.p7
  refine bodyPost_ret (v := .agg #[.int .u8 2,.int .u8 0,.string ⟨dst.toArray⟩,.string ⟨a8.toArray⟩,.slice pa LN ca,.int .i64 0,.int .i64 0]) (by simp [results,Tryz.results152,go_sem,t0,t1,t2,t3,t4,t5,t6]) rfl ?_
  exact ⟨HN12.below HBZ.out (fun i e=>e ▸ HBB.out),.inr ⟨{ in0 with kind:=2,dst:=dst,nm:=a8,args:=a10 },k10,O 10,S.sites,_,by (rw [HM2.out,HSEL.out];unfold loadA;rw [HM8.out];simp only [bind,Except.bind];rw [HM10.out];simp only [bind,Except.bind];try rfl),HOK.st,rfl,⟨pa,ca,by rw [HLE10.out];rfl,by rw [HLE10.out];exact HSL10.keep fun i hi=>by have h:=(((But.refl (fun i=>i=b\/i=w.heap.size) w10).trans (HC11.mono fun i h => .inr h)).trans (HC12.mono fun i h => .inr h));have:=HSZ.out;have hs1:w.heap.size<w9.heap.size:=HT9.lt;exact ⟨⟨by omega,Nat.lt_of_lt_of_le hi.2 h.size,fun e=>by have:=(HPM.rs.ow.lt 10 _ e).2;omega⟩,h.block i hi.2 (fun e=>by rcases e with e | e <;> omega)⟩⟩,by rw [upd_self];exact HPM.read HD12.out HN12.out HK11.out,Step.of_but HN12.out,.inl rfl⟩⟩
 have H1:=hid h
 have g1:(c.1 == ([108,111,97,100]:Bs))=false:=by exact beq_eq_false_iff_ne.2 h
 clear h
 by_cases h:c.1=kRelease
 ·have HSEL:=hid (show assign2 S (fpos ws) dst (ws.drop k1) c (ws.drop k2)=releaseA S (fpos ws) dst (ws.drop k2) from by unfold assign2;rw [if_neg H1.out,if_pos h])
  have g2:(c.1 == ([114,101,108,101,97,115,101]:Bs))=true:=by rw [h];rfl
  clear h
  go_upto_region 11 with fail
  clear n0 n1 n2
  go_upto_region 12 with (go_at_call 197;(with_reducible refine (psite_any (HPM.out.read HD7.out HN7.out HK7.out) HW.out HOK.out.st).mono ?_);rintro e w8 ⟨hb,⟨f1,hm,rfl⟩ | ⟨s8,k8,v8,sites,hm,rfl,hsl,hps,hst,hmv⟩⟩;(focus (exact ⟨rfl,(HN7.out.below HBZ.out (fun i e=>e ▸ HBB.out)).trans hb,.inl ⟨f1,by (rw [HM2.out,HSEL.out];unfold releaseA;rw [hm];rfl),rfl⟩⟩));have HT8:=hid (HT7.out.keep (hst.block _ HT7.out.lt (by have:=HSZ.out;omega) (fun e=>by have:=(HPM.out.rs.ow.lt 10 _ e).2;omega)));obtain ⟨t0,t1,t2,t3,t4,t5,t6⟩:=HT8.out.p7;have f0:=HT8.out.fr 0;have f1:=HT8.out.fr 1;have f2:=HT8.out.fr 2;have f3:=HT8.out.fr 3;have f4:=HT8.out.fr 4;have f5:=HT8.out.fr 5;have f6:=HT8.out.fr 6)
  have HM8:=hid hm;have HSI:=hid hsl;have HST:=hid (Step.trans' HN7.out hst)
  have HMV:=hid (show Moved w (O 10) v8 from by rcases hmv with e | ⟨i,e,hi⟩;exact .inl e;exact .inr ⟨i,e,Nat.le_trans HN7.size hi⟩)
  have HNE:=hid (show v8.ownBlock ≠ some w.heap.size from fun e=>by
   rcases hmv with e' | ⟨j,e',hj⟩
   ·have:=(HPM.rs.ow.lt 10 _ (e'.symm.trans e)).2;omega
   ·rw [e'] at e;cases e;have:=HT7.lt;omega)
  have HK8:=hid hps.le
  have HSG:=hid (show GR kStr (fun _=>False) b 9 w8 v8 sites from by have h:=hps.rs.st;rw [upd_eq] at h;exact h.str)
  have HNB:=hid (show v8.ownBlock ≠ some b from by have h:=hps.own 10;rw [upd_eq] at h;exact h)
  have hd8:Rd b (upd O 10 v8) S.p.width pw cw S.inn S.step ws k8 w8:=hps.rd
  have HB8:=hid (HST.below HPM.rs.ow HBB.out HBZ.out)
  clear hb hm hsl hps hst hmv
  generalize hw:World.setCell _ _ _=w9
  have HT9:=hid (show BxL 41 w.heap.size [.int .u8 7,.int .u8 0,.string ⟨dst.toArray⟩,.string ⟨s8.toArray⟩,.slice none 0 0,.int .i64 0,.int .i64 0] w9 from by rw [<- hw];exact (HT8.set 0 _).set 3 _)
  have HD9:=hid (show Rd b (upd O 10 v8) S.p.width pw cw S.inn S.step ws k8 w9 from by rw [<- hw];exact (hd8.other _ HSZ.out).other _ HSZ.out)
  have HC9:=hid (show But (fun i=>i=w.heap.size) w8 w9 from by rw [<- hw];exact ((But.refl (fun i=>i=w.heap.size) w8).setC _ (.inl rfl)).setC _ (.inl rfl))
  have HB9:=hid (HB8.trans (HC9.below (Nat.le_trans HBZ.out HB8.size) (fun i e=>e ▸ HBZ.out)))
  clear hw hd8 t0 t1 t2 t3 t4 t5 t6 f0 f1 f2 f3 f4 f5 f6
  have HOP9:=hid (show Calls Tryz.prog 196 #[.pointer (some ⟨b,0,none⟩),.int .i64 1] w9 _ from poperands_any 1 (by decide) HD9.out HK8.out HW.out HBB.out)
  go_upto_region 13 with (go_at_call 196;(with_reducible refine HOP9.out.mono ?_);rintro e w10 ⟨hb,⟨f1,hm,rfl⟩ | ⟨a10,k10,v,hm,hk,rfl,hv,hd,hn⟩⟩;(focus (exact ⟨rfl,HB9.out.trans hb,.inl ⟨f1,by (rw [HM2.out,HSEL.out];unfold releaseA;rw [HM8.out];simp only [bind,Except.bind];rw [hm];try rfl),rfl⟩⟩));obtain ⟨hsl,hlen⟩:=hv;obtain ⟨pa,ca,hva⟩:=hsl.slc;subst hva;have HSL10:=hid hsl;obtain ⟨LN,hLN⟩:∃ n,a10.length=n:=⟨_,rfl⟩;rw [hLN] at HSL10 ⊢;have HLE10:=hid hLN;have HM10:=hid hm;have HK10:=hid hk;have HD10:=hid hd;have HN10:=hid hn;have HB10:=hid (HB9.out.trans hb);have HT10:=hid (HT9.out.but hn (by have:=HSZ.out;omega));clear hb hm hk hd hn hsl hlen hLN;obtain ⟨t0,t1,t2,t3,t4,t5,t6⟩:=HT10.out.p7;have f0:=HT10.out.fr 0;have f1:=HT10.out.fr 1;have f2:=HT10.out.fr 2;have f3:=HT10.out.fr 3;have f4:=HT10.out.fr 4;have f5:=HT10.out.fr 5;have f6:=HT10.out.fr 6)
  generalize hw:World.setCell _ _ _=w11
  have HT11:=hid (show BxL 41 w.heap.size [.int .u8 7,.int .u8 0,.string ⟨dst.toArray⟩,.string ⟨s8.toArray⟩,.slice pa LN ca,.int .i64 0,.int .i64 0] w11 from by rw [<- hw];exact HT10.set 4 _)
  have HD11:=hid (show Rd b (upd O 10 v8) S.p.width pw cw S.inn S.step ws k10 w11 from by rw [<- hw];exact HD10.other _ HSZ.out)
  have HC11:=hid (show But (fun i=>i=w.heap.size) w10 w11 from by rw [<- hw];exact (But.refl (fun i=>i=w.heap.size) w10).setC _ (.inl rfl))
  clear hw t0 t1 t2 t3 t4 t5 t6 f0 f1 f2 f3 f4 f5 f6
  obtain ⟨t0,t1,t2,t3,t4,t5,t6⟩:=HT11.p7
  have f0:=HT11.fr 0
  have f1:=HT11.fr 1
  have f2:=HT11.fr 2
  have f3:=HT11.fr 3
  have f4:=HT11.fr 4
  have f5:=HT11.fr 5
  have f6:=HT11.fr 6
  go_wp2_with fail
  generalize hw:World.setCell _ _ _=w12
  have HT12:=hid (show BxL 41 w.heap.size [.int .u8 7,.int .u8 0,.string ⟨dst.toArray⟩,.string ⟨s8.toArray⟩,.slice pa LN ca,.int .i64 0,.int .i64 0] w12 from by rw [<- hw];exact (((((((HT11.set 0 _).set 1 _).set 2 _).set 3 _).set 4 _).set 5 _).set 6 _))
  have HD12:=hid (show Rd b (upd O 10 v8) S.p.width pw cw S.inn S.step ws k10 w12 from by rw [<- hw];exact (((((((HD11.other _ HSZ.out).other _ HSZ.out).other _ HSZ.out).other _ HSZ.out).other _ HSZ.out).other _ HSZ.out).other _ HSZ.out))
  have HC12:=hid (show But (fun i=>i=w.heap.size) w10 w12 from by rw [<- hw];exact (((((((HC11.setC _ (.inl rfl)).setC _ (.inl rfl)).setC _ (.inl rfl)).setC _ (.inl rfl)).setC _ (.inl rfl)).setC _ (.inl rfl)).setC _ (.inl rfl)))
  clear hw t0 t1 t2 t3 t4 t5 t6 f0 f1 f2 f3 f4 f5 f6
  have HCH:=hid (show But (fun i=>i=b\/i=w.heap.size) w8 w12 from ((HC9.mono fun i h => .inr h).trans (HN10.mono fun i h => .inl h)).trans (HC12.mono fun i h => .inr h))
  have HB12:=hid (HB10.trans (HC12.below (Nat.le_trans HBZ.out HB10.size) (fun i e=>e ▸ HBZ.out)))
  have HS12:=hid (show Step b O 10 w w12 from ⟨HCH.os.trans HST.os,HCH.tape.trans HST.tape,HCH.output.trans HST.output,Nat.le_trans HST.size HCH.size,fun i hi hib hne=>(HCH.block i (Nat.lt_of_lt_of_le hi HST.size) (fun e=>by rcases e with e | e <;> omega)).trans (HST.block i hi hib hne)⟩)
  have HG12:=hid (HSG.keep (R':=fun _=>False) (fun i hi=>hi.elim) (fun i hi=>HCH.block i (HSG.lt i hi).2 (fun e=>by rcases e with e | e;exact HNB.out (e ▸ hi);exact HNE.out (e ▸ hi))))
  obtain ⟨t0,t1,t2,t3,t4,t5,t6⟩:=HT12.p7
  refine bodyPost_ret (v := .agg #[.int .u8 7,.int .u8 0,.string ⟨dst.toArray⟩,.string ⟨s8.toArray⟩,.slice pa LN ca,.int .i64 0,.int .i64 0]) (by simp [results,Tryz.results152,go_sem,t0,t1,t2,t3,t4,t5,t6]) rfl ?_
  have hsl:SlG kAg (fun i=>w.heap.size<=i/\i<w12.heap.size/\v8.ownBlock ≠ some i) w12 (.slice pa a10.length ca) a10:=by rw [HLE10.out];exact HSL10.keep fun i hi=>by have hs1:w.heap.size<w9.heap.size:=HT9.lt;exact ⟨⟨by omega,Nat.lt_of_lt_of_le hi.2 HC12.size,fun e=>by have:=(HSG.lt i e).2;have:=HC9.size;omega⟩,HC12.block i hi.2 (by omega)⟩
  exact ⟨HB12.out,.inr ⟨{ in0 with kind:=7,dst:=dst,nm:=s8,args:=a10 },k10,v8,sites,_,by (rw [HM2.out,HSEL.out];unfold releaseA;rw [HM8.out];simp only [bind,Except.bind];rw [HM10.out];try rfl),HSI.out,rfl,⟨pa,ca,by rw [HLE10.out];rfl,hsl⟩,HPM.step10 HS12.out HMV.out HG12.out HD12.out HK10.out,HS12.out,HMV.out⟩⟩
 have H2:=hid h
 have g2:(c.1 == ([114,101,108,101,97,115,101]:Bs))=false:=by exact beq_eq_false_iff_ne.2 h
 clear h
 by_cases h:c.1=kCall
 ·have HSEL:=hid (show assign2 S (fpos ws) dst (ws.drop k1) c (ws.drop k2)=callA S (fpos ws) dst (ws.drop k2) from by unfold assign2;rw [if_neg H1.out,if_neg H2.out,if_pos h])
  have g3:(c.1 == ([99,97,108,108]:Bs))=true:=by rw [h];rfl
  clear h
  go_upto_region 15 with fail
  clear n0 n1 n2 g1 g2 g3
  go_wp2_with (go_at_call 198;(with_reducible refine (pname_any HD7.out HK7.out HW.out HBB.out).mono ?_);rintro e w8 ⟨hb,⟨f1,hm,rfl⟩ | ⟨a8,k8,v,hm,hk,rfl,hv,hd,hn⟩⟩;(focus (exact ⟨rfl,(HN7.out.below HBZ.out (fun i e=>e ▸ HBB.out)).trans hb,.inl ⟨f1,by (rw [HM2.out,HSEL.out];unfold callA;rw [hm];rfl),rfl⟩⟩));obtain rfl:v=.agg #[.string ⟨a8.1.toArray⟩,.int .i64 (a8.2.1:Int),.int .i64 (a8.2.2:Int)]:=hv;have HM8:=hid hm;have HK8:=hid hk;have HD8:=hid hd;have HN8:=hid (HN7.out.trans hn);have HT8:=hid (HT7.out.but hn (by have:=HSZ.out;omega));clear hb hm hk hd hn;obtain ⟨t0,t1,t2,t3,t4,t5,t6⟩:=HT8.out.p7;have f0:=HT8.out.fr 0;have f1:=HT8.out.fr 1;have f2:=HT8.out.fr 2;have f3:=HT8.out.fr 3;have f4:=HT8.out.fr 4;have f5:=HT8.out.fr 5;have f6:=HT8.out.fr 6)
  generalize hw:World.setCell _ _ _=w9
  have HT9:=hid (show BxL 41 w.heap.size [.int .u8 4,.int .u8 0,.string ⟨dst.toArray⟩,.string ⟨a8.1.toArray⟩,.slice none 0 0,.int .i64 0,.int .i64 0] w9 from by rw [<- hw];exact (HT8.set 0 _).set 3 _)
  have HD9:=hid (show Rd b O S.p.width pw cw S.inn S.step ws k8 w9 from by rw [<- hw];exact (HD8.other _ HSZ.out).other _ HSZ.out)
  have HN9:=hid (show But (fun i=>i=b) w w9 from by rw [<- hw];exact (HN8.setC _ (.inr lrf)).setC _ (.inr lrf))
  clear hw t0 t1 t2 t3 t4 t5 t6 f0 f1 f2 f3 f4 f5 f6
  have HMC:=hid (show assignP S (fpos ws) dst (ws.drop k)=callM S dst a8.1 (restP (fpos ws) 0 (ws.drop k8)) from by rw [HM2.out,HSEL.out];unfold callA callM;rw [HM8.out];simp only [bind,Except.bind];cases restP (fpos ws) 0 (ws.drop k8) <;> rfl)
  go_loopg [] (ws.length+1) (fun gk wr=>∃ (kj:Nat) (l:List Ag) (v:Value),restP (fpos ws) 0 (ws.drop k8)=appR l (restP (fpos ws) l.length (ws.drop kj))/\kj<=ws.length/\ws.length - kj+1<=gk/\gk<=ws.length+1/\l.length<=32/\GA kAg w9.heap.size 43 wr v l/\BxL 41 w.heap.size [.int .u8 4,.int .u8 0,.string ⟨dst.toArray⟩,.string ⟨a8.1.toArray⟩,v,.int .i64 0,.int .i64 0] wr/\Rd b O S.p.width pw cw S.inn S.step ws kj wr/\But (fun i=>i=b\/i=w.heap.size) w9 wr)
  case atStart=>exact ⟨k8,[],_,(appR_nil _).symm,HK8.out,by omega,Nat.le_refl _,Nat.zero_le _,GA.nil _ _ _ _,HT9.out,HD9.out,But.refl _ _⟩
  case round =>
   obtain ⟨kj,l,v,hmo,hkj,hg1,hg2,hll,hga,hbx,hdj,hnr⟩:=hrel
   obtain ⟨pv,cv,rfl⟩:=hga.slc
   obtain ⟨LL,hLL⟩:∃ n,l.length=n:=⟨_,rfl⟩
   rw [hLL] at hga hbx hll hmo
   have HLL:=hid hLL;have HMO:=hid hmo;have HKJ:=hid hkj;have HG1:=hid hg1;have HG2:=hid hg2;have HL32:=hid hll;have HGA:=hid hga;have HBX:=hid hbx;have HDR:=hid hdj;have HNR:=hid hnr
   have HNWR:=hid (show But (fun i=>i=b) w wr from HN9.only HNR.out)
   clear hLL hmo hkj hg1 hg2 hll hga hbx hdj hnr
   by_cases hlt:kj<ws.length
   ·obtain ⟨wb,off,hpw,hwb,hne,hc⟩:=HDR.at HW.pos
    subst hpw
    obtain ⟨x,hx⟩:∃ x,ws[kj]'hlt=x:=⟨_,rfl⟩
    have h0:=hc kj hlt
    rw [hx] at h0
    obtain ⟨h0,h1,h2⟩:=h0
    have HDX:=hid (show ws.drop kj=x :: ws.drop (kj+1) from by rw [<- hx];exact List.drop_eq_getElem_cons hlt)
    rw [HDX.out] at HMO
    have hS:(fun W=>W.cell? ⟨b,5,none⟩=some (.slice (some ⟨wb,off,none⟩) ws.length cw)/\W.cell? ⟨b,6,none⟩=some (.int .i64 (kj:Int))) wr.drew:=⟨HDR.box.at 5 rfl,HDR.box.at 6 rfl⟩
    have HH1:=hid h1;have HH2:=hid h2
    have HLT:=hid hlt
    clear hc hx h0 h1 h2
    go_upto_region 16 with fail
    have hFa:=fT
    refine rgN (fun W=>W.cell? ⟨b,5,none⟩=some (.slice (some ⟨wb,off,none⟩) ws.length cw)/\W.cell? ⟨b,6,none⟩=some (.int .i64 (kj:Int))) 10 (by kernel_rfl) ?_
    simp only [zP,Nat.reduceAdd]
    iterate 10 (refine nxW (v:=?_) 10 hS ?_ ?_;rotate_left;(focus rintro w' ⟨s0,s1⟩;go_simp;try rfl);simp only [aP])
    refine wpHJ_done (by kernel_rfl) ?_ _
    simp only [onlyN,Exit.then]
    clear hFa
    clear hS
    go_upto_region 17 with fail
    generalize hw:wr.drew=wa
    have HDA:=hid (show Rd b O S.p.width (some ⟨wb,off,none⟩) cw S.inn S.step ws kj wa from by rw [<- hw];exact HDR.below (Below.refl _ _).drew)
    have HNRA:=hid (show But (fun i=>i=b\/i=w.heap.size) w9 wa from by rw [<- hw];exact HNR.dr)
    have HBXA:=hid (show BxL 41 w.heap.size [.int .u8 4,.int .u8 0,.string ⟨dst.toArray⟩,.string ⟨a8.1.toArray⟩,.slice pv LL cv,.int .i64 0,.int .i64 0] wa from by rw [<- hw];exact HBX.bel (Below.refl _ _).drew)
    have HGAA:=hid (show GA kAg w9.heap.size 43 wa (.slice pv LL cv) l from by rw [<- hw,<- HLL.out];have h:=HGA.out;rw [<- HLL.out] at h;exact h.keep (Below.refl _ _).drew)
    have hS:(fun W=>W.cell? ⟨b,5,none⟩=some (.slice (some ⟨wb,off,none⟩) ws.length cw)/\W.cell? ⟨b,6,none⟩=some (.int .i64 (kj:Int))/\W.cell? ⟨w.heap.size,4,none⟩=some (.slice pv LL cv)/\W.cell? ⟨wb,off+kj*3+1,none⟩=some (.int .i64 (x.2.1:Int))/\W.cell? ⟨wb,off+kj*3+2,none⟩=some (.int .i64 (x.2.2:Int))) wa.drew:=⟨HDA.box.at 5 rfl,HDA.box.at 6 rfl,HBXA.at 4 rfl,by rw [<- hw];exact HH1.out,by rw [<- hw];exact HH2.out⟩
    have wk:IntKind.i64.wrap (kj:Int)=(kj:Int):=IntWalk.i64_in _ (by have:=HW.len;omega)
    clear hw
    have hFa:=fT
    refine rgP (fun _ _ _ h=>h) (fun W=>W.cell? ⟨b,5,none⟩=some (.slice (some ⟨wb,off,none⟩) ws.length cw)/\W.cell? ⟨b,6,none⟩=some (.int .i64 (kj:Int))/\W.cell? ⟨w.heap.size,4,none⟩=some (.slice pv LL cv)/\W.cell? ⟨wb,off+kj*3+1,none⟩=some (.int .i64 (x.2.1:Int))/\W.cell? ⟨wb,off+kj*3+2,none⟩=some (.int .i64 (x.2.2:Int))) 16 (by kernel_rfl) ?_
    simp only [zP,Nat.reduceAdd]
    iterate 15 (refine nxW (v:=?_) 16 hS ?_ ?_;rotate_left;(focus rintro w' ⟨s0,s1,s2,s3,s4⟩;go_simp;try rfl);simp only [aP])
    refine oy 15 fun K hK=>?_
    go_simp
    (with_reducible refine (callsIn_wide.2 (pneed_any _ ((x.2.1:Int),(x.2.2:Int)) _ _)).mono ?_)
    rintro e wb2 ⟨hb,⟨hc,rfl⟩ | ⟨hc,rfl⟩⟩
    rotate_left
    ·exact ⟨rfl,((HN9.only HNRA.out).dr.trans (But.of_below _ hb)).below HBZ.out (fun i e=>e ▸ HBB.out),.inl ⟨_,by rw [HMC.out,HMO.out,rest_long l (by have h:=hc;simp at h ⊢;omega)];rfl,rfl⟩⟩
    have HCB:=hid hc
    have HDB:=hid ((HDA.below (Below.refl _ _).drew).below hb)
    have HNRB:=hid (HNRA.dr.trans (But.of_below _ hb))
    have HBXB:=hid ((HBXA.bel (Below.refl _ _).drew).bel hb)
    have HGAB:=hid ((HGAA.keep (Below.refl _ _).drew).keep hb)
    have hSb:(fun W=>W.cell? ⟨b,5,none⟩=some (.slice (some ⟨wb,off,none⟩) ws.length cw)/\W.cell? ⟨b,6,none⟩=some (.int .i64 (kj:Int))/\W.cell? ⟨w.heap.size,4,none⟩=some (.slice pv LL cv)/\W.cell? ⟨wb,off+kj*3+1,none⟩=some (.int .i64 (x.2.1:Int))/\W.cell? ⟨wb,off+kj*3+2,none⟩=some (.int .i64 (x.2.2:Int))) wb2:=⟨HDB.box.at 5 rfl,HDB.box.at 6 rfl,HBXB.at 4 rfl,cB hb hS.2.2.2.1,cB hb hS.2.2.2.2⟩
    clear hb hc hS
    refine hK _ _ (.inr (.inr hSb)) (dN ?_)
    clear hK K
    simp only [onlyP,Exit.then]
    clear hFa
    clear hSb wk
    have HL32':=hid (show LL<32 from by have h:=HCB.out;simp at h;omega)
    go_upto_region 18 with fail
    have hS:(fun W=>W.cell? ⟨w.heap.size,4,none⟩=some (.slice pv LL cv)) wb2.drew:=HBXB.at 4 rfl
    clear hlt
    have hFa:=fT
    refine rgP (fun _ _ _ h=>h) (fun W=>W.cell? ⟨w.heap.size,4,none⟩=some (.slice pv LL cv)) 7 (by kernel_rfl) ?_
    simp only [zP,Nat.reduceAdd]
    iterate 3 (refine nxW (v:=?_) 8 hS ?_ ?_;rotate_left;(focus rintro w' s0;go_simp;try rfl);simp only [aP])
    refine oy 3 fun K hK=>?_
    go_simp
    (with_reducible refine (callsIn_wide.2 (poperand_any (HDB.out.below (Below.refl _ _).drew) HKJ.out HW.out HBB.out)).mono ?_)
    rintro e wc ⟨hb,⟨f1,hm,rfl⟩ | ⟨ag,kn,v,hm,hkn,rfl,hv,hd,hn⟩⟩
    ·exact ⟨rfl,((HN9.only HNRB.out).dr.below HBZ.out (fun i e=>e ▸ HBB.out)).trans hb,.inl ⟨f1,by rw [HMC.out,HMO.out,rest_err l HL32'.out (by rw [<- HDX.out];exact hm)];rfl,rfl⟩⟩
    obtain rfl:v=.agg #[.string ⟨ag.nm.toArray⟩,.int .u64 (ag.num:Int)]:=hv
    have HMG:=hid hm;have HKN:=hid hkn;have HDC:=hid hd
    have HNRC:=hid (HNRB.dr.trans (hn.mono fun i h => .inl h))
    have HBXC:=hid ((HBXB.bel (Below.refl _ _).drew).but hn (by have:=HSZ.out;omega))
    have HGAC:=hid (ga_keepA (HGAB.keep (Below.refl _ _).drew) (w':=wc) fun i hi=>hn.block i ((HGAB.keep (Below.refl _ _).drew).lt i hi).2 (by have:=(HGAB.lt i hi).1;have:=HN9.size;have:=HSZ.out;omega))
    have hSc:(fun W=>W.cell? ⟨w.heap.size,4,none⟩=some (.slice pv LL cv)) wc:=HBXC.at 4 rfl
    clear hb hm hkn hd hn hS
    refine hK _ _ (.inr (.inr hSc)) ?_
    clear hK K
    refine oy 4 fun K hK=>?_
    go_simp
    generalize hw:World.alloc _ _=wd
    have HBD:=hid (show Below wc.heap.size wc wd from by rw [<- hw];first | exact (bA).drew | exact (bA))
    have HYD:=hid (show BxL 43 wc.heap.size [.string ⟨ag.nm.toArray⟩,.int .u64 (ag.num:Int)] wd from by rw [<- hw];first | exact (BxL.new _ _ _).bel (Below.refl _ _).drew | exact BxL.new _ _ _)
    have hSd:(fun W=>W.cell? ⟨w.heap.size,4,none⟩=some (.slice pv LL cv)) wd:=(HBXC.bel HBD.out).at 4 rfl
    clear hw hSc
    refine hK _ _ (.inr (.inr hSd)) ?_
    clear hK K
    refine oy 5 fun K hK=>?_
    refine wpIn_pushB (R:=fun _=>False) (B:=w9.heap.size) (K:=kAg) (x:=ag) (l:=l) (cs:=[.string ⟨ag.nm.toArray⟩,.int .u64 (ag.num:Int)]) (te:=43) hFa (.tmp 82) (.tmp 85) 37 rfl Tryz.underlying37 _ 24 info_arg rfl (by have h:=(HGAC.keep HBD.out);obtain ⟨css,h1,h2⟩:=h.row;exact ⟨css,⟨h1.1,fun i hi hi'=>h1.2 i hi hi'⟩,h2⟩) (fun i hi=>hi.elim) rfl HYD.out (by rfl) (by rfl) (by have:=HL32'.out;have:=HLL.out;omega) (by have:=HL32'.out;have:=HLL.out;unfold maxLen;omega) (Nat.le_trans HNRC.size HBD.size) ?_
    intro v' we hge hgr hme
    obtain ⟨pe,ce,hve⟩:=hge.slc
    obtain ⟨ne,hne⟩:∃ n,(l++[ag]).length=n:=⟨_,rfl⟩
    rw [hne] at hve
    subst hve
    have HNE:=hid hne
    have HGE:=hid hge
    have HSTB:=hid (show ∀ i,i<wd.heap.size->i<w9.heap.size->we.heap[i]?=wd.heap[i]? from fun i hi h9=>hgr.block i hi fun e=>by have:=((HGAC.keep HBD.out).lt i e.symm).1;omega)
    have HGS:=hid hgr.size
    have HGO:=hid (show we.os=wd.os/\we.tape=wd.tape/\we.output=wd.output from ⟨hgr.os,hgr.tape,hgr.output⟩)
    have HBXE:=hid (show BxL 41 w.heap.size [.int .u8 4,.int .u8 0,.string ⟨dst.toArray⟩,.string ⟨a8.1.toArray⟩,.slice pv LL cv,.int .i64 0,.int .i64 0] we from (HBXC.bel HBD.out).keep (HSTB.out _ (HBXC.bel HBD.out).lt HT9.lt))
    have hSe:(fun W=>W.cell? ⟨w.heap.size,4,none⟩=some (.slice pv LL cv)) we:=HBXE.at 4 rfl
    have t4:=hSe
    have f4:=HBXE.fr 4
    clear hne hge hgr hme hSd
    refine hK _ _ (.inr (.inr hSe)) ?_
    clear hK K
    (refine nxW (v:=?_) 8 hSe ?_ ?_;rotate_left;(focus rintro w' s0;go_simp;try rfl);simp only [aP])
    refine oy 7 fun K hK=>?_
    go_simp
    refine hK _ _ (.inl rfl) (dN ?_)
    clear hK K
    simp only [onlyP,Exit.then]
    clear hFa
    clear t4 f4 hSe
    generalize hw:World.setCell _ _ _=wf
    have hbf:But (fun i=>i=b\/i=w.heap.size) w9 we:=⟨HGO.1.trans (HBD.os.trans HNRC.os),HGO.2.1.trans (HBD.tape.trans HNRC.tape),HGO.2.2.trans (HBD.output.trans HNRC.output),Nat.le_trans HNRC.size (Nat.le_trans HBD.size HGS.out),fun i hi hF=>(HSTB.out i (Nat.lt_of_lt_of_le hi (Nat.le_trans HNRC.size HBD.size)) hi).trans ((HBD.block i (Nat.lt_of_lt_of_le hi HNRC.size)).trans (HNRC.block i hi hF))⟩
    have HNF:=hid (show But (fun i=>i=b\/i=w.heap.size) w9 wf from by rw [<- hw];exact hbf.setC _ (.inl (.inr rfl)))
    have hde:Rd b O S.p.width (some ⟨wb,off,none⟩) cw S.inn S.step ws kn we:=(HDC.below HBD.out).keepB fun i hi=>HSTB.out i (by have:=(HDC.below HBD.out).box.lt;omega) (by have:=HD9.box.lt;omega)
    have HDF:=hid (show Rd b O S.p.width (some ⟨wb,off,none⟩) cw S.inn S.step ws kn wf from by rw [<- hw];exact hde.other _ HSZ.out)
    have HBF:=hid (show BxL 41 w.heap.size [.int .u8 4,.int .u8 0,.string ⟨dst.toArray⟩,.string ⟨a8.1.toArray⟩,.slice pe ne ce,.int .i64 0,.int .i64 0] wf from by rw [<- hw];exact HBXE.set 4 _)
    have HGF:=hid (show GA kAg w9.heap.size 43 wf (.slice pe ne ce) (l++[ag]) from by rw [<- hw];exact ga_keepA (HGE.ga fun i hi=>hi.elim) fun i hi=>heap_ot (by have:=(HGE.lt i hi).1;have:=HT9.lt;omega) _)
    have HKE:=hid (show kn=kj+1 from operand_pos (by rw [<- HDX.out];exact HMG.out) HDX.out HKJ.out HKN.out)
    have HMR:=hid (show restP (fpos ws) 0 (ws.drop k8)=appR (l++[ag]) (restP (fpos ws) (l++[ag]).length (ws.drop kn)) from by rw [HMO.out,rest_ok l HL32'.out (by rw [<- HDX.out];exact HMG.out),List.length_append,HLL.out];rfl)
    have HLE2:=hid (show (l++[ag]).length<=32 from by rw [List.length_append,HLL.out];have:=HL32'.out;show LL+1<=32;omega)
    clear hw hbf hde
    obtain ⟨gp,rfl⟩:∃ g,gk=g+1:=⟨gk - 1,by have:=HG1.out;omega⟩
    go_wp2_with fail
    go_roundg gp
    case measure=>omega
    case rel=>exact ⟨kn,l++[ag],_,HMR.out,HKN.out,by have:=HG1.out;have:=HKE.out;have:=HLT.out;omega,by have:=HG2.out;omega,HLE2.out,HGF.out,HBF.out,HDF.out,HNF.out⟩
   ·have hke:kj=ws.length:=by have:=HKJ.out;omega
    have HKE:=hid hke
    have hS:(fun W=>W.cell? ⟨b,5,none⟩=some (.slice pw ws.length cw)/\W.cell? ⟨b,6,none⟩=some (.int .i64 (kj:Int))) wr.drew:=⟨HDR.box.at 5 rfl,HDR.box.at 6 rfl⟩
    go_upto_region 16 with fail
    have hFa:=fT
    refine rgN (fun W=>W.cell? ⟨b,5,none⟩=some (.slice pw ws.length cw)/\W.cell? ⟨b,6,none⟩=some (.int .i64 (kj:Int))) 10 (by kernel_rfl) ?_
    simp only [zP,Nat.reduceAdd]
    iterate 10 (refine nxW (v:=?_) 10 hS ?_ ?_;rotate_left;(focus rintro w' ⟨s0,s1⟩;go_simp;try rfl);simp only [aP])
    refine wpHJ_done (by kernel_rfl) ?_ _
    simp only [onlyN,Exit.then]
    clear hFa
    clear hS
    generalize hw:wr.drew=wa
    have HDA:=hid (show Rd b O S.p.width pw cw S.inn S.step ws kj wa from by rw [<- hw];exact HDR.below (Below.refl _ _).drew)
    have HNA:=hid (show But (fun i=>i=b) w wa from by rw [<- hw];exact HNWR.dr)
    have HTA:=hid (show BxL 41 w.heap.size [.int .u8 4,.int .u8 0,.string ⟨dst.toArray⟩,.string ⟨a8.1.toArray⟩,.slice pv LL cv,.int .i64 0,.int .i64 0] wa from by rw [<- hw];exact HBX.bel (Below.refl _ _).drew)
    have HGAA:=hid (show GA kAg w9.heap.size 43 wa (.slice pv LL cv) l from by rw [<- hw,<- HLL.out];have h:=HGA.out;rw [<- HLL.out] at h;exact h.keep (Below.refl _ _).drew)
    have hlf:decide (kj<ws.length)=false:=by simpa using hlt
    clear hw hke hlt
    obtain ⟨t0,t1,t2,t3,t4,t5,t6⟩:=HTA.p7;have f0:=HTA.fr 0;have f1:=HTA.fr 1;have f2:=HTA.fr 2;have f3:=HTA.fr 3;have f4:=HTA.fr 4;have f5:=HTA.fr 5;have f6:=HTA.fr 6
    go_wp2_with fail
    generalize hw:World.setCell _ _ _=wf
    have HTF:=hid (show BxL 41 w.heap.size [.int .u8 4,.int .u8 0,.string ⟨dst.toArray⟩,.string ⟨a8.1.toArray⟩,.slice pv LL cv,.int .i64 0,.int .i64 0] wf from by rw [<- hw];exact (((((((HTA.set 0 _).set 1 _).set 2 _).set 3 _).set 4 _).set 5 _).set 6 _))
    have HDF:=hid (show Rd b O S.p.width pw cw S.inn S.step ws kj wf from by rw [<- hw];exact (((((((HDA.other _ HSZ.out).other _ HSZ.out).other _ HSZ.out).other _ HSZ.out).other _ HSZ.out).other _ HSZ.out).other _ HSZ.out))
    have HNF:=hid (show But (fun i=>i=b) w wf from by rw [<- hw];exact (((((((HNA.setC _ (.inr lrf)).setC _ (.inr lrf)).setC _ (.inr lrf)).setC _ (.inr lrf)).setC _ (.inr lrf)).setC _ (.inr lrf)).setC _ (.inr lrf)))
    have HCF:=hid (show But (fun i=>i=w.heap.size) wa wf from by rw [<- hw];exact ((((((((But.refl (fun i=>i=w.heap.size) wa).setC _ (.inl rfl)).setC _ (.inl rfl)).setC _ (.inl rfl)).setC _ (.inl rfl)).setC _ (.inl rfl)).setC _ (.inl rfl)).setC _ (.inl rfl)))
    clear hw t0 t1 t2 t3 t4 t5 t6 f0 f1 f2 f3 f4 f5 f6
    obtain ⟨t0,t1,t2,t3,t4,t5,t6⟩:=HTF.p7
    refine bodyPost_ret (v := .agg #[.int .u8 4,.int .u8 0,.string ⟨dst.toArray⟩,.string ⟨a8.1.toArray⟩,.slice pv LL cv,.int .i64 0,.int .i64 0]) (by simp [results,Tryz.results152,go_sem,t0,t1,t2,t3,t4,t5,t6]) rfl ?_
    have hsl:SlG kAg (fun i=>w.heap.size<=i/\i<wf.heap.size/\(O 10).ownBlock ≠ some i) wf (.slice pv l.length cv) l:=by
     have hg:=ga_keepA (w':=wf) HGAA.out fun i hi=>HCF.block i (HGAA.lt i hi).2 (by have:=(HGAA.lt i hi).1;have:=HT9.lt;omega)
     obtain ⟨css,h1,h2⟩:=hg.row
     rw [<- HLL.out] at h2
     refine (GR.sl (R:=fun _=>False) (B:=w9.heap.size) (e:=43) ⟨css,⟨h1.1,fun i hi hi'=>h1.2 i hi hi'⟩,h2⟩ (by have:=HLL.out;have:=HL32.out;omega)).weaken fun i hi=>?_
     rcases hi with hi | hi
     ·exact hi.elim
     ·have h9:=(hg.lt i (by rw [<- HLL.out];exact hi)).1;exact ⟨by have:=HN9.size;omega,(hg.lt i (by rw [<- HLL.out];exact hi)).2,fun e=>by have:=(HPM.rs.ow.lt 10 _ e).2;have:=HN9.size;omega⟩
    have hdn:ws.drop kj=[]:=List.drop_eq_nil_of_le (by rw [HKE.out];exact Nat.le_refl _)
    exact ⟨HNF.below HBZ.out (fun i e=>e ▸ HBB.out),.inr ⟨{ in0 with kind:=4,dst:=dst,nm:=a8.1,args:=l },kj,O 10,S.sites,_,by (rw [HMC.out,HMO.out,hdn];simp [restP,appR,callM,pure,Except.pure]),HOK.st,rfl,⟨pv,cv,by rw [HLL.out];rfl,hsl⟩,by rw [upd_self];exact HPM.read HDF.out HNF.out HKJ.out,Step.of_but HNF.out,.inl rfl⟩⟩
 have H3:=hid h
 have g3:(c.1 == ([99,97,108,108]:Bs))=false:=by exact beq_eq_false_iff_ne.2 h
 clear h
 obtain ⟨PO,hPO⟩:∃ o,ofM c.1=o:=⟨_,rfl⟩
 obtain ⟨o1,o2⟩:=PO
 have HOF:=hid (fun W=>show Calls Tryz.prog 200 #[.string ⟨c.1.toArray⟩] W (fun e w'=>e=.returned (.tuple #[.int .u8 (o1:Int),.int .i64 o2])/\Below W.heap.size W w') from by have h:=of_any c.1 W;rw [hPO] at h;exact h)
 have HPO:=hid hPO
 clear hPO
 by_cases h:(opB c.1 && decide (opL.idxOf c.1+2 ≠ 21))=true
 ·have HSEL:=hid (show assign2 S (fpos ws) dst (ws.drop k1) c (ws.drop k2)=opA S (fpos ws) dst (opL.idxOf c.1+2) (ws.drop k2) from by unfold assign2;rw [if_neg H1.out,if_neg H2.out,if_neg H3.out,if_pos h])
  obtain ⟨ho1,ho2,hole⟩:=of_op (Bool.and_eq_true _ _ ▸ h).1 HPO.out
  have g4:(o2 == 0)=true:=by rw [ho2];rfl
  have g5:((o1:Int) != 21)=true:=by have h':=(Bool.and_eq_true _ _ ▸ h).2;simp at h' ⊢;omega
  have HO1:=hid ho1;have HOL:=hid hole
  clear h ho1 ho2 hole
  go_upto_region 22 with (go_at_call 200;(with_reducible refine (HOF.out _).mono ?_);rintro e w8 ⟨rfl,hb⟩;have HD8:=hid (HD7.out.below hb);have HN8:=hid (HN7.out.trans (But.of_below _ hb));have HT8:=hid (HT7.out.bel hb);clear hb)
  clear n0 n1 n2 g1 g2 g3
  clear g4 g5
  obtain ⟨AR,hAR⟩:∃ n,(arityM o1:Int)=n:=⟨_,rfl⟩
  have HAR:=hid (fun W=>show Calls Tryz.prog 201 #[.int .u8 (o1:Int)] W (fun e w'=>e=.returned (.tuple #[.int .i64 AR,.int .i64 0])/\Below W.heap.size W w') from by have h:=arity_any o1 HOL.out W;rw [hAR] at h;exact h)
  have HARQ:=hid hAR
  clear hAR
  go_upto_region 23 with (go_at_call 201;(with_reducible refine (HAR.out _).mono ?_);rintro e w9 ⟨rfl,hb⟩;have HD9:=hid (HD8.out.below hb);have HN9:=hid (HN8.out.trans (But.of_below _ hb));have HT9:=hid (HT8.out.bel hb);clear hb)
  have HK9:=hid HK7.out
  have HOP9:=hid (show Calls Tryz.prog 196 #[.pointer (some ⟨b,0,none⟩),.int .i64 AR] w9 _ from by rw [<- HARQ.out];exact poperands_any (arityM o1) (by have:=arity_le o1;omega) HD9.out HK9.out HW.out HBB.out)
  go_upto_region 24 with (go_at_call 196;(with_reducible refine HOP9.out.mono ?_);rintro e w10 ⟨hb,⟨f1,hm,rfl⟩ | ⟨a10,k10,v,hm,hk,rfl,hv,hd,hn⟩⟩;(focus (exact ⟨rfl,(HN9.out.below HBZ.out (fun i e=>e ▸ HBB.out)).trans hb,.inl ⟨f1,by (rw [HM2.out,HSEL.out,<- HO1.out];unfold opA;rw [hm];try rfl),rfl⟩⟩));obtain ⟨hsl,hlen⟩:=hv;obtain ⟨pa,ca,hva⟩:=hsl.slc;subst hva;have HSL10:=hid hsl;have HLN:=hid hlen;obtain ⟨LN,hLN⟩:∃ n,a10.length=n:=⟨_,rfl⟩;rw [hLN] at HSL10 ⊢;have HLE10:=hid hLN;have HM10:=hid hm;have HK10:=hid hk;have HD10:=hid hd;have HN10:=hid (HN9.out.trans hn);have HT10:=hid (HT9.out.but hn (by have:=HSZ.out;omega));have HB10:=hid hn;clear hb hm hk hd hn;clear hsl hlen hLN;obtain ⟨t0,t1,t2,t3,t4,t5,t6⟩:=HT10.out.p7;have f0:=HT10.out.fr 0;have f1:=HT10.out.fr 1;have f2:=HT10.out.fr 2;have f3:=HT10.out.fr 3;have f4:=HT10.out.fr 4;have f5:=HT10.out.fr 5;have f6:=HT10.out.fr 6)
  generalize hw:World.setCell _ _ _=w11
  have HT11:=hid (show BxL 41 w.heap.size [.int .u8 1,.int .u8 (o1:Int),.string ⟨dst.toArray⟩,.string ⟨#[]⟩,.slice pa LN ca,.int .i64 0,.int .i64 0] w11 from by rw [<- hw];exact (((HT10.set 0 _).set 1 _).set 4 _))
  have HD11:=hid (show Rd b O S.p.width pw cw S.inn S.step ws k10 w11 from by rw [<- hw];exact (((HD10.other _ HSZ.out).other _ HSZ.out).other _ HSZ.out))
  have HN11:=hid (show But (fun i=>i=b) w w11 from by rw [<- hw];exact (((HN10.setC _ (.inr lrf)).setC _ (.inr lrf)).setC _ (.inr lrf)))
  have HC11:=hid (show But (fun i=>i=w.heap.size) w10 w11 from by rw [<- hw];exact ((((But.refl (fun i=>i=w.heap.size) w10).setC _ (.inl rfl)).setC _ (.inl rfl)).setC _ (.inl rfl)))
  have HK11:=hid HK10.out
  clear hw t0 t1 t2 t3 t4 t5 t6 f0 f1 f2 f3 f4 f5 f6
  obtain ⟨t0,t1,t2,t3,t4,t5,t6⟩:=HT11.p7
  have f0:=HT11.fr 0
  have f1:=HT11.fr 1
  have f2:=HT11.fr 2
  have f3:=HT11.fr 3
  have f4:=HT11.fr 4
  have f5:=HT11.fr 5
  have f6:=HT11.fr 6
  go_wp2_with fail
  generalize hw:World.setCell _ _ _=w12
  have HT12:=hid (show BxL 41 w.heap.size [.int .u8 1,.int .u8 (o1:Int),.string ⟨dst.toArray⟩,.string ⟨#[]⟩,.slice pa LN ca,.int .i64 0,.int .i64 0] w12 from by rw [<- hw];exact (((((((HT11.set 0 _).set 1 _).set 2 _).set 3 _).set 4 _).set 5 _).set 6 _))
  have HD12:=hid (show Rd b O S.p.width pw cw S.inn S.step ws k10 w12 from by rw [<- hw];exact (((((((HD11.other _ HSZ.out).other _ HSZ.out).other _ HSZ.out).other _ HSZ.out).other _ HSZ.out).other _ HSZ.out).other _ HSZ.out))
  have HN12:=hid (show But (fun i=>i=b) w w12 from by rw [<- hw];exact (((((((HN11.setC _ (.inr lrf)).setC _ (.inr lrf)).setC _ (.inr lrf)).setC _ (.inr lrf)).setC _ (.inr lrf)).setC _ (.inr lrf)).setC _ (.inr lrf)))
  have HC12:=hid (show But (fun i=>i=w.heap.size) w11 w12 from by rw [<- hw];exact ((((((((But.refl (fun i=>i=w.heap.size) w11).setC _ (.inl rfl)).setC _ (.inl rfl)).setC _ (.inl rfl)).setC _ (.inl rfl)).setC _ (.inl rfl)).setC _ (.inl rfl)).setC _ (.inl rfl)))
  clear hw t0 t1 t2 t3 t4 t5 t6 f0 f1 f2 f3 f4 f5 f6
  obtain ⟨t0,t1,t2,t3,t4,t5,t6⟩:=HT12.p7
  refine bodyPost_ret (v := .agg #[.int .u8 1,.int .u8 (o1:Int),.string ⟨dst.toArray⟩,.string ⟨#[]⟩,.slice pa LN ca,.int .i64 0,.int .i64 0]) (by simp [results,Tryz.results152,go_sem,t0,t1,t2,t3,t4,t5,t6]) rfl ?_
  exact ⟨HN12.below HBZ.out (fun i e=>e ▸ HBB.out),.inr ⟨{ in0 with kind:=1,op:=o1,dst:=dst,args:=a10 },k10,O 10,S.sites,_,by (rw [HM2.out,HSEL.out,<- HO1.out];unfold opA;rw [HM10.out];simp only [bind,Except.bind];try rfl),HOK.st,rfl,⟨pa,ca,by rw [HLE10.out];rfl,by rw [HLE10.out];exact HSL10.keep fun i hi=>by have h:=(((But.refl (fun i=>i=b\/i=w.heap.size) w10).trans (HC11.mono fun i h => .inr h)).trans (HC12.mono fun i h => .inr h));have:=HSZ.out;have hs1:w.heap.size<w9.heap.size:=HT9.lt;exact ⟨⟨by omega,Nat.lt_of_lt_of_le hi.2 h.size,fun e=>by have:=(HPM.rs.ow.lt 10 _ e).2;omega⟩,h.block i hi.2 (fun e=>by rcases e with e | e <;> omega)⟩⟩,by rw [upd_self];exact HPM.read HD12.out HN12.out HK11.out,Step.of_but HN12.out,.inl rfl⟩⟩
 ·have HSEL:=hid (show assign2 S (fpos ws) dst (ws.drop k1) c (ws.drop k2)=copyA S (fpos ws) dst (ws.drop k1) from by unfold assign2;rw [if_neg H1.out,if_neg H2.out,if_neg H3.out,if_neg h])
  have hcs:(o2 == 0)=false\/((o2 == 0)=true/\((o1:Int) != 21)=false):=of_no h HPO.out
  clear h
  rcases hcs with g4 | ⟨g4,g5⟩
  all_goals (
   go_upto_region 25 with (go_at_call 200;(with_reducible refine (HOF.out _).mono ?_);rintro e w8 ⟨rfl,hb⟩;have HD8:=hid (HD7.out.below hb);have HN8:=hid (HN7.out.trans (But.of_below _ hb));have HT8:=hid (HT7.out.bel hb);clear hb)
   clear n0 n1 n2 g1 g2 g3
   have c6:=HD8.box.at 6 rfl
   have f6:=HD8.box.fr 6
   have HK21:=hid (next_pos HM3.out HK1.out HK2.out)
   have hkk:wrap64 ((k2:Int) - 1)=(k1:Int):=by have h0:=HK21.out;have h1:=HK2.out;have h2:=HW.len;unfold wrap64;omega
   go_upto_region 26 with fail
   generalize hw:World.setCell _ _ _=w9
   have HD9:=hid (show Rd b O S.p.width pw cw S.inn S.step ws k1 w9 from by rw [<- hw];exact HD8.set k1)
   have HN9:=hid (show But (fun i=>i=b) w w9 from by rw [<- hw];exact HN8.setC _ (.inl rfl))
   have HT9:=hid (show BxL 41 w.heap.size [.int .u8 0,.int .u8 0,.string ⟨dst.toArray⟩,.string ⟨#[]⟩,.slice none 0 0,.int .i64 0,.int .i64 0] w9 from by rw [<- hw];exact HT8.keep (heap_ot (by have:=HSZ.out;omega) _))
   have HK9:=hid HK1.out
   clear hw c6 f6 hkk
   have HOP9:=hid (show Calls Tryz.prog 196 #[.pointer (some ⟨b,0,none⟩),.int .i64 1] w9 _ from poperands_any 1 (by decide) HD9.out HK9.out HW.out HBB.out)
   go_upto_region 27 with (go_at_call 196;(with_reducible refine HOP9.out.mono ?_);rintro e w10 ⟨hb,⟨f1,hm,rfl⟩ | ⟨a10,k10,v,hm,hk,rfl,hv,hd,hn⟩⟩;(focus (exact ⟨rfl,(HN9.out.below HBZ.out (fun i e=>e ▸ HBB.out)).trans hb,.inl ⟨f1,by (rw [HM2.out,HSEL.out];unfold copyA;rw [hm];try rfl),rfl⟩⟩));obtain ⟨hsl,hlen⟩:=hv;obtain ⟨pa,ca,hva⟩:=hsl.slc;subst hva;have HSL10:=hid hsl;have HLN:=hid hlen;obtain ⟨LN,hLN⟩:∃ n,a10.length=n:=⟨_,rfl⟩;rw [hLN] at HSL10 ⊢;have HLE10:=hid hLN;have HM10:=hid hm;have HK10:=hid hk;have HD10:=hid hd;have HN10:=hid (HN9.out.trans hn);have HT10:=hid (HT9.out.but hn (by have:=HSZ.out;omega));have HB10:=hid hn;clear hb hm hk hd hn;clear hsl hlen hLN;obtain ⟨t0,t1,t2,t3,t4,t5,t6⟩:=HT10.out.p7;have f0:=HT10.out.fr 0;have f1:=HT10.out.fr 1;have f2:=HT10.out.fr 2;have f3:=HT10.out.fr 3;have f4:=HT10.out.fr 4;have f5:=HT10.out.fr 5;have f6:=HT10.out.fr 6)
   generalize hw:World.setCell _ _ _=w11
   have HT11:=hid (show BxL 41 w.heap.size [.int .u8 0,.int .u8 0,.string ⟨dst.toArray⟩,.string ⟨#[]⟩,.slice pa LN ca,.int .i64 0,.int .i64 0] w11 from by rw [<- hw];exact (HT10.set 4 _))
   have HD11:=hid (show Rd b O S.p.width pw cw S.inn S.step ws k10 w11 from by rw [<- hw];exact (HD10.other _ HSZ.out))
   have HN11:=hid (show But (fun i=>i=b) w w11 from by rw [<- hw];exact (HN10.setC _ (.inr lrf)))
   have HC11:=hid (show But (fun i=>i=w.heap.size) w10 w11 from by rw [<- hw];exact ((But.refl (fun i=>i=w.heap.size) w10).setC _ (.inl rfl)))
   have HK11:=hid HK10.out
   clear hw t0 t1 t2 t3 t4 t5 t6 f0 f1 f2 f3 f4 f5 f6
   obtain ⟨t0,t1,t2,t3,t4,t5,t6⟩:=HT11.p7
   have f0:=HT11.fr 0
   have f1:=HT11.fr 1
   have f2:=HT11.fr 2
   have f3:=HT11.fr 3
   have f4:=HT11.fr 4
   have f5:=HT11.fr 5
   have f6:=HT11.fr 6
   go_wp2_with fail
   generalize hw:World.setCell _ _ _=w12
   have HT12:=hid (show BxL 41 w.heap.size [.int .u8 0,.int .u8 0,.string ⟨dst.toArray⟩,.string ⟨#[]⟩,.slice pa LN ca,.int .i64 0,.int .i64 0] w12 from by rw [<- hw];exact (((((((HT11.set 0 _).set 1 _).set 2 _).set 3 _).set 4 _).set 5 _).set 6 _))
   have HD12:=hid (show Rd b O S.p.width pw cw S.inn S.step ws k10 w12 from by rw [<- hw];exact (((((((HD11.other _ HSZ.out).other _ HSZ.out).other _ HSZ.out).other _ HSZ.out).other _ HSZ.out).other _ HSZ.out).other _ HSZ.out))
   have HN12:=hid (show But (fun i=>i=b) w w12 from by rw [<- hw];exact (((((((HN11.setC _ (.inr lrf)).setC _ (.inr lrf)).setC _ (.inr lrf)).setC _ (.inr lrf)).setC _ (.inr lrf)).setC _ (.inr lrf)).setC _ (.inr lrf)))
   have HC12:=hid (show But (fun i=>i=w.heap.size) w11 w12 from by rw [<- hw];exact ((((((((But.refl (fun i=>i=w.heap.size) w11).setC _ (.inl rfl)).setC _ (.inl rfl)).setC _ (.inl rfl)).setC _ (.inl rfl)).setC _ (.inl rfl)).setC _ (.inl rfl)).setC _ (.inl rfl)))
   clear hw t0 t1 t2 t3 t4 t5 t6 f0 f1 f2 f3 f4 f5 f6
   obtain ⟨t0,t1,t2,t3,t4,t5,t6⟩:=HT12.p7
   refine bodyPost_ret (v := .agg #[.int .u8 0,.int .u8 0,.string ⟨dst.toArray⟩,.string ⟨#[]⟩,.slice pa LN ca,.int .i64 0,.int .i64 0]) (by simp [results,Tryz.results152,go_sem,t0,t1,t2,t3,t4,t5,t6]) rfl ?_
   exact ⟨HN12.below HBZ.out (fun i e=>e ▸ HBB.out),.inr ⟨{ in0 with dst:=dst,args:=a10 },k10,O 10,S.sites,_,by (rw [HM2.out,HSEL.out];unfold copyA;rw [HM10.out];simp only [bind,Except.bind];try rfl),HOK.st,rfl,⟨pa,ca,by rw [HLE10.out];rfl,by rw [HLE10.out];exact HSL10.keep fun i hi=>by have h:=(((But.refl (fun i=>i=b\/i=w.heap.size) w10).trans (HC11.mono fun i h => .inr h)).trans (HC12.mono fun i h => .inr h));have:=HSZ.out;have hs1:w.heap.size<w9.heap.size:=HT9.lt;exact ⟨⟨by omega,Nat.lt_of_lt_of_le hi.2 h.size,fun e=>by have:=(HPM.rs.ow.lt 10 _ e).2;omega⟩,h.block i hi.2 (fun e=>by rcases e with e | e <;> omega)⟩⟩,by rw [upd_self];exact HPM.read HD12.out HN12.out HK11.out,Step.of_but HN12.out,.inl rfl⟩⟩
   )
end Go.Proofs.YtoofbgoeipijcaaGreatDoor
