/-
 A part.
-/
import Derived.Test.YtoofbgoeipijcaaGreatDoorVSPrU
import Derived.Recover
namespace Go.Proofs.YtoofbgoeipijcaaGreatDoor
set_option maxRecDepth 100000
set_option maxHeartbeats 4000000
set_option linter.all false
open Go.RowKit Go.Shelf
attribute [local go_sem] Oper.semAt_some
theorem RunPost.ok' {B:Nat} {p:Pg} {w w':World} {e:Ending} (h:RunPost B p w e w') (h0:(checkM p).2=0):e=.returned (.tuple #[])/\checkM p=((0,0),0)/\Below B w w':=by
 obtain ⟨h1,h2⟩:=h
 rw [if_pos h0] at h1
 exact ⟨h1.1,h1.2,h2⟩
theorem RunPost.bad' {B:Nat} {p:Pg} {w w':World} {e:Ending} (h:RunPost B p w e w') (h0:¬ (checkM p).2=0):e=.panicked (fltC (checkM p))/\Below B w w':=by
 obtain ⟨h1,h2⟩:=h
 rw [if_neg h0] at h1
 exact ⟨h1,h2⟩
theorem catch_fault (f:Flt) (p2 p3:Nat) (a b c:Value) (w:World) (h2:BxL 39 p2 [a,b] w) (h3:BxL 29 p3 [c] w) (hne:p2 ≠ p3) :
  CallsD Tryz.prog 79 #[.pointer (some ⟨p2,0,none⟩),.pointer (some ⟨p3,0,none⟩)] (.panicking (fltC f)) w fun e u' w' =>
   e=.returned (.tuple #[])/\settle u'=.returning/\BxL 39 p2 [.int .i64 f.1.1,.int .i64 f.1.2] w'/\BxL 29 p3 [.int .i64 f.2] w'/\But (fun k=>k=p2\/k=p3) w w':=by
 have H2:=hid h2;have H3:=hid h3;have HNE:=hid hne
 have hta:∀ (xT:TypeId) (v:Value) (W:World),(Instr.typeAssert (.iface 116 v) xT 116 false).run Tryz.prog W=.ok v W:=fun xT v W=>by kernel_rfl
 unfold fltC
 refine callsD_of_wpS Tryz.func79 rfl fun c₀ cs hu=>?_
 apply wpS_seq
 apply wpS_region
 simp [wpOpsS,go_sem,recoverD,hu,fltC,Tryz.ntmps79,Exit.thenS]
 apply wpS_seq
 apply wpS_region
 simp [wpOpsS,go_sem,Exit.thenS]
 refine wpS_cond (t:=true) (by simp [Act.eval,Array.replicate]) ?_
 simp only [if_true]
 refine wpS_of_wp ?_
 obtain ⟨cs',hcs'⟩:∃ c,({ fn:=c₀.fn,tmps:=c₀.tmps,todo:=c₀.todo,defers:=c₀.defers,mode:=FrameMode.panicking [{ v := .iface 116 (.agg #[.int .i64 f.1.1,.int .i64 f.1.2,.int .i64 f.2]),recovered:=true }],kind:=c₀.kind,roundOf:=c₀.roundOf } :: cs:List Frame)=c:=⟨_,rfl⟩
 rw [hcs']
 change Code.wp _ _ _ { tmps:=#[.pointer (some ⟨p2,0,none⟩),.pointer (some ⟨p3,0,none⟩),.iface 116 (.agg #[.int .i64 f.1.1,.int .i64 f.1.2,.int .i64 f.2]),undef,.iface 116 (.agg #[.int .i64 f.1.1,.int .i64 f.1.2,.int .i64 f.2]),.iface 116 (.agg #[.int .i64 f.1.1,.int .i64 f.1.2,.int .i64 f.2]),.bool true,undef,undef,undef,undef,undef,undef],defers:=[] } _
 clear h2 h3 hne
 go_upto_region 3 with fail
 obtain ⟨bq,hbq⟩:∃ b,w.heap.size=b:=⟨_,rfl⟩
 obtain ⟨wq,hwq⟩:∃ W,w.alloc (.cells #[.int .i64 f.1.1,.int .i64 f.1.2,.int .i64 f.2] 116)=W:=⟨_,rfl⟩
 have hb0:BxL 116 bq [.int .i64 f.1.1,.int .i64 f.1.2,.int .i64 f.2] wq:=by rw [<- hwq,<- hbq];exact BxL.new _ _ _
 have HB:=hid (show Below w.heap.size w wq from by rw [<- hwq];exact bA)
 rw [hwq,hbq]
 clear hwq hbq
 have H2q:=(H2.bel HB.out)
 have H3q:=(H3.bel HB.out)
 have hq2:bq ≠ p2:=fun e=>by subst e;have h5:=hb0.symm.trans H2q;injection h5 with h5;injection h5 with h6 h7;revert h7;decide
 have hq3:bq ≠ p3:=fun e=>by subst e;have h5:=hb0.symm.trans H3q;injection h5 with h5;injection h5 with h6 h7;revert h7;decide
 have hA0:BxL 116 bq [.int .i64 f.1.1,.int .i64 f.1.2,.int .i64 f.2] ((wq.setCell ⟨p2,0,none⟩ (.int .i64 f.1.1)).setCell ⟨p2,1,none⟩ (.int .i64 f.1.2)):=(hb0.keep (heap_ot hq2 _)).keep (heap_ot hq2 _)
 have hA1:BxL 116 bq [.int .i64 f.1.1,.int .i64 f.1.2,.int .i64 f.2] (((wq.setCell ⟨p2,0,none⟩ (.int .i64 f.1.1)).setCell ⟨p2,1,none⟩ (.int .i64 f.1.2)).setCell ⟨p3,0,none⟩ (.int .i64 f.2)):=hA0.keep (heap_ot hq3 _)
 have hB2:BxL 39 p2 [.int .i64 f.1.1,.int .i64 f.1.2] ((wq.setCell ⟨p2,0,none⟩ (.int .i64 f.1.1)).setCell ⟨p2,1,none⟩ (.int .i64 f.1.2)):=(H2q.set 0 _).set 1 _
 have hB3:BxL 29 p3 [c] ((wq.setCell ⟨p2,0,none⟩ (.int .i64 f.1.1)).setCell ⟨p2,1,none⟩ (.int .i64 f.1.2)):=(H3q.keep (heap_ot (Ne.symm HNE.out) _)).keep (heap_ot (Ne.symm HNE.out) _)
 have k0:wq.cell? ⟨p2,0,none⟩=some a:=H2q.at 0 rfl
 have k1:wq.cell? ⟨p2,1,none⟩=some b:=H2q.at 1 rfl
 have k2:wq.frozen? ⟨p2,0,none⟩=false:=H2q.fr 0
 have k3:wq.frozen? ⟨p2,1,none⟩=false:=H2q.fr 1
 have k4:((wq.setCell ⟨p2,0,none⟩ (.int .i64 f.1.1)).setCell ⟨p2,1,none⟩ (.int .i64 f.1.2)).cell? ⟨p3,0,none⟩=some c:=hB3.at 0 rfl
 have k5:((wq.setCell ⟨p2,0,none⟩ (.int .i64 f.1.1)).setCell ⟨p2,1,none⟩ (.int .i64 f.1.2)).frozen? ⟨p3,0,none⟩=false:=hB3.fr 0
 have hS:(fun W=>W.cell? ⟨bq,0,none⟩=some (.int .i64 f.1.1)/\W.cell? ⟨bq,1,none⟩=some (.int .i64 f.1.2)/\W.cell? ⟨bq,2,none⟩=some (.int .i64 f.2)) wq.drew:=⟨hb0.at 0 rfl,hb0.at 1 rfl,hb0.at 2 rfl⟩
 have hFa:=fT
 refine rgN (fun W=>W.cell? ⟨bq,0,none⟩=some (.int .i64 f.1.1)/\W.cell? ⟨bq,1,none⟩=some (.int .i64 f.1.2)/\W.cell? ⟨bq,2,none⟩=some (.int .i64 f.2)) 6 (by kernel_rfl) ?_
 simp only [zP,Nat.reduceAdd]
 iterate 4 (refine nxW (v:=?_) 6 hS ?_ ?_;rotate_left;(focus intro w' hS';obtain ⟨s0,s1,s2⟩:=hS';go_simp;try rfl);simp only [aP])
 refine oy 4 fun K hK=>?_
 go_simp
 refine hK _ _ (.inr (.inr (show (fun W=>W.cell? ⟨bq,0,none⟩=some (.int .i64 f.1.1)/\W.cell? ⟨bq,1,none⟩=some (.int .i64 f.1.2)/\W.cell? ⟨bq,2,none⟩=some (.int .i64 f.2)) ((wq.setCell ⟨p2,0,none⟩ (.int .i64 f.1.1)).setCell ⟨p2,1,none⟩ (.int .i64 f.1.2)).drew from ⟨hA0.at 0 rfl,hA0.at 1 rfl,hA0.at 2 rfl⟩))) ?_
 clear hK K
 refine oy 5 fun K hK=>?_
 go_simp
 refine hK _ _ (.inr (.inr (show (fun W=>W.cell? ⟨bq,0,none⟩=some (.int .i64 f.1.1)/\W.cell? ⟨bq,1,none⟩=some (.int .i64 f.1.2)/\W.cell? ⟨bq,2,none⟩=some (.int .i64 f.2)) (((wq.setCell ⟨p2,0,none⟩ (.int .i64 f.1.1)).setCell ⟨p2,1,none⟩ (.int .i64 f.1.2)).setCell ⟨p3,0,none⟩ (.int .i64 f.2)).drew from ⟨hA1.at 0 rfl,hA1.at 1 rfl,hA1.at 2 rfl⟩))) (dN ?_)
 clear hK K
 simp only [onlyN,Exit.then]
 clear hFa
 change bodyPostS _ _ _ _ _ Exit.normal _ _ _
 refine ⟨rfl,_,hcs'.symm,_,results_none rfl _ _ _,rfl,rfl,?_,?_,?_⟩
 ·exact hB2.keep (heap_ot HNE.out _)
 ·exact hB3.set 0 _
 ·refine ⟨HB.os,HB.tape,HB.output,by simp [World.setCell];exact HB.size,fun k hk hF=>?_⟩
  show ((((wq.setCell ⟨p2,0,none⟩ (.int .i64 f.1.1)).setCell ⟨p2,1,none⟩ (.int .i64 f.1.2)).setCell ⟨p3,0,none⟩ (.int .i64 f.2)).heap[k]?:Option Obj)=w.heap[k]?
  rw [heap_ot (fun e=>hF (.inr e)),heap_ot (fun e=>hF (.inl e)),heap_ot (fun e=>hF (.inl e))]
  exact HB.block k hk
theorem catch_none (p2 p3:Nat) (w:World) :
  CallsD Tryz.prog 79 #[.pointer (some ⟨p2,0,none⟩),.pointer (some ⟨p3,0,none⟩)] .returning w fun e u' w'=>e=.returned (.tuple #[])/\u'=.returning/\w'=w:=by
 refine callsD_of_wpS Tryz.func79 rfl fun c₀ cs hu=>?_
 apply wpS_seq
 apply wpS_region
 simp [wpOpsS,go_sem,recoverD,hu,Tryz.ntmps79,Exit.thenS]
 apply wpS_seq
 apply wpS_region
 simp [wpOpsS,go_sem,Exit.thenS]
 refine wpS_cond (t:=false) (by simp [Act.eval,Array.replicate]) ?_
 simp only [Bool.false_eq_true,if_false]
 refine wpS_of_wp (wp_skip ?_)
 cases c₀
 simp_all [bodyPostS,results,Tryz.results79]
theorem ck_start (p:Pg) (a b c d:Value) (B:Nat) (w3:World) (hB:w3.heap.size=B) (hp:PgV (·<B) w3 a b c d p) :
  Ck B (((((w3.alloc (.map #[] 0)).alloc (.map #[] 0)).alloc (.map #[] 0)).alloc (.map #[] 0)).alloc (.cells #[.int .i64 p.width,a,b,c,d,.map (some B),.map (some (B+1)),.map (some (B+1+1)),.map (some (B+1+1+1)),.slice none 0 0] 123))
   ⟨B+1+1+1+1,B,B+1,B+1+1,B+1+1+1,a,b,c,d,p⟩ (.slice none 0 0) [] ⟨[],[],[],[],[]⟩:=by
 subst hB
 have al:∀ (w:World) (o:Obj),Below w.heap.size w (w.alloc o):=fun w o=>bA
 have n0:=NmS.new w3
 have n1:=NmS.new (w3.alloc (.map #[] 0))
 have n2:=NmS.new ((w3.alloc (.map #[] 0)).alloc (.map #[] 0))
 have n3:=NmS.new (((w3.alloc (.map #[] 0)).alloc (.map #[] 0)).alloc (.map #[] 0))
 have bx:=BxL.new 123 ((((w3.alloc (.map #[] 0)).alloc (.map #[] 0)).alloc (.map #[] 0)).alloc (.map #[] 0)) [.int .i64 p.width,a,b,c,d,.map (some w3.heap.size),.map (some (w3.heap.size+1)),.map (some (w3.heap.size+1+1)),.map (some (w3.heap.size+1+1+1)),.slice none 0 0]
 simp only [sA] at n1 n2 n3 bx
 have hk:∀ (w:World) (o:Obj) (m:Nat) (l:List Bs),NmS w m l->NmS (w.alloc o) m l:=fun w o m l h=>h.keep ((al w o).block m h.lt)
 have hsz:((((((w3.alloc (.map #[] 0)).alloc (.map #[] 0)).alloc (.map #[] 0)).alloc (.map #[] 0)).alloc (.cells #[.int .i64 p.width,a,b,c,d,.map (some w3.heap.size),.map (some (w3.heap.size+1)),.map (some (w3.heap.size+1+1)),.map (some (w3.heap.size+1+1+1)),.slice none 0 0] 123)).heap.size)=w3.heap.size+5:=by simp only [sA]
 refine ⟨bx,?_,by rw [hsz];omega,hk _ _ _ _ (hk _ _ _ _ (hk _ _ _ _ (hk _ _ _ _ n0))),hk _ _ _ _ (hk _ _ _ _ (hk _ _ _ _ n1)),hk _ _ _ _ (hk _ _ _ _ n2),(hk _ _ _ _ n3:NmS _ _ []),GA.nil _ _ _ _,rfl,fun i hi=>by simp at hi,?_,by simp,?_,by simp,by simp [Value.ownBlock]⟩
 ·exact hp.stay fun k hk=>by simp only [heap_al];rw [if_neg (by simp only [sA];omega),if_neg (by simp only [sA];omega),if_neg (by simp only [sA];omega),if_neg (by simp only [sA];omega),if_neg (by omega)]
 ·exact ⟨by simp only [];omega,Nat.le_refl _,by simp only [];omega,by simp only [];omega,by simp only [];omega⟩
 ·refine ⟨?_,?_,?_,?_,?_,?_⟩ <;> simp only [] <;> omega
theorem check_k (p:Pg) (a b c d:Value) (w:World) (hE:PrE0 w) (hp:PgV (·<w.heap.size) w a b c d p) (hok:PgOk p) :
  Calls Tryz.prog 34 #[.agg #[.int .i64 p.width,a,b,c,d]] w fun e w'=>e=.returned (.tuple #[posV (checkM p).1,.int .i64 (checkM p).2])/\Below w.heap.size w w':=by
 have hmf:∀ (fn:Fn) (first cap:Array Value) (w:World),(Instr.makeFunc fn first cap).run Tryz.prog w=.ok (.func fn first cap) w:=fun _ _ _ _=>rfl
 have hmm:=@run_makeMap Tryz.prog
 obtain ⟨pa,ca,ha⟩:=hp.1.slc
 obtain ⟨pb,cb,hb⟩:=hp.2.1.slc
 obtain ⟨pc,cc,hc⟩:=hp.2.2.1.slc
 obtain ⟨pd,cd,hd⟩:=hp.2.2.2.slc
 have HP:=hid hp;have HE:=hid hE;have HOK:=hid hok;have HA:=hid ha;have HB:=hid hb;have HC:=hid hc;have HD:=hid hd
 rw [ha,hb,hc,hd]
 clear hp hE hok ha hb hc hd
 go_enter_defers Tryz.func34,Tryz.ntmps34
 go_upto_region 3 with fail
 obtain ⟨w3,hw3⟩:∃ W,((w.alloc (.cells #[.int .i64 p.width,.slice pa p.chans.length ca,.slice pb p.arrays.length cb,.slice pc p.funcs.length cc,.slice pd p.main.length cd] 27)).alloc (.cells #[.int .i64 0,.int .i64 0] 39)).alloc (.cells #[.int .i64 0] 29)=W:=⟨_,rfl⟩
 have hs3:w3.heap.size=w.heap.size+1+1+1:=by rw [<- hw3];simp only [sA]
 have hb3:Below w.heap.size w w3:=by rw [<- hw3];exact ((bA).alloc (by simp only [sA];omega) _).alloc (by simp only [sA];omega) _
 have h23:BxL 39 (w.heap.size+1) [.int .i64 0,.int .i64 0] w3:=by
  rw [<- hw3]
  have:=BxL.new 39 (w.alloc (.cells #[.int .i64 p.width,.slice pa p.chans.length ca,.slice pb p.arrays.length cb,.slice pc p.funcs.length cc,.slice pd p.main.length cd] 27)) [.int .i64 0,.int .i64 0]
  rw [sA] at this
  exact this.al _
 have h33:BxL 29 (w.heap.size+1+1) [.int .i64 0] w3:=by
  rw [<- hw3]
  have:=BxL.new 29 ((w.alloc (.cells #[.int .i64 p.width,.slice pa p.chans.length ca,.slice pb p.arrays.length cb,.slice pc p.funcs.length cc,.slice pd p.main.length cd] 27)).alloc (.cells #[.int .i64 0,.int .i64 0] 39)) [.int .i64 0]
  rw [sA,sA] at this
  exact this
 rw [hw3]
 clear hw3
 have hck:=ck_start p a b c d (w.heap.size+1+1+1) w3 hs3 (HP.keep fun k hk=>⟨by omega,hb3.block k hk⟩)
 rw [HA.out,HB.out,HC.out,HD.out] at hck
 obtain ⟨w8,hw8⟩:∃ W,((((w3.alloc (.map #[] 0)).alloc (.map #[] 0)).alloc (.map #[] 0)).alloc (.map #[] 0)).alloc (.cells #[.int .i64 p.width,.slice pa p.chans.length ca,.slice pb p.arrays.length cb,.slice pc p.funcs.length cc,.slice pd p.main.length cd,.map (some (w.heap.size+1+1+1)),.map (some (w.heap.size+1+1+1+1)),.map (some (w.heap.size+1+1+1+1+1)),.map (some (w.heap.size+1+1+1+1+1+1)),.slice none 0 0] 123)=W:=⟨_,rfl⟩
 have hb8:Below w3.heap.size w3 w8:=by rw [<- hw8];exact ((((bA).alloc (by simp only [sA];omega) _).alloc (by simp only [sA];omega) _).alloc (by simp only [sA];omega) _).alloc (by simp only [sA];omega) _
 rw [hw8] at hck
 rw [hw8]
 clear hw8
 have HCK:=hid hck;have HB3:=hid hb3;have HB8:=hid hb8;have H23:=hid h23;have H33:=hid h33;have HS3:=hid hs3
 have HPR:=hid (show PrB (w.heap.size+1+1+1) w8 from ⟨w3,HE.below hb3,hs3,by rw [<- hs3];exact hb8⟩)
 clear hck hb3 hb8 h23 h33 hs3
 by_cases h0:(checkM p).2=0
 ·have H0:=hid h0
  clear h0
  go_upto_region 4 with (go_at_call 80;(with_reducible refine (run_any (w.heap.size+1+1+1) _ _ HCK.out HPR.out HOK.out).mono ?_);rintro e w9 hpost;obtain ⟨rfl,hc9,hb9⟩:=hpost.ok' H0.out;have HC9:=hid hc9;have HB9:=hid hb9;clear hpost hc9 hb9)
  have q2:BxL 39 (w.heap.size+1) [.int .i64 0,.int .i64 0] w9:=H23.keep ((HB9.block _ (by omega)).trans (HB8.block _ (by rw [HS3.out];omega)))
  have q3:BxL 29 (w.heap.size+1+1) [.int .i64 0] w9:=H33.keep ((HB9.block _ (by omega)).trans (HB8.block _ (by rw [HS3.out];omega)))
  have HBW:=hid (show Below w.heap.size w w9 from HB3.trans ((HB8.mono (by rw [HS3.out];omega)).trans (HB9.mono (by omega))))
  obtain ⟨k0,k1⟩:=q2.p2
  have k2:w9.cell? ⟨w.heap.size+1+1,0,none⟩=some (.int .i64 0):=q3.at 0 rfl
  have k3:w9.frozen? ⟨w.heap.size+1,0,none⟩=false:=q2.fr 0
  have k4:w9.frozen? ⟨w.heap.size+1,1,none⟩=false:=q2.fr 1
  have k5:w9.frozen? ⟨w.heap.size+1+1,0,none⟩=false:=q3.fr 0
  go_wp2_with fail
  refine leaves_cons (f:=79) (args:=#[.pointer (some ⟨w.heap.size+1,0,none⟩),.pointer (some ⟨w.heap.size+1+1,0,none⟩)]) (by simp) (by simp [go_sem]) ?_
  refine (catch_none _ _ _).mono ?_
  rintro e u' w'' ⟨rfl,rfl,rfl⟩
  simp [Leaves,settle,results,Tryz.results34,go_sem,k0,k1,k2]
  refine ⟨by rw [HC9.out];exact ⟨⟨rfl,rfl⟩,rfl⟩,HBW.trans (But.below (F:=fun k=>k=w.heap.size+1\/k=w.heap.size+1+1) ⟨rfl,rfl,rfl,by simp [World.setCell],fun k hk hF=>?_⟩ HBW.size fun k hk=>by omega)⟩
  rw [heap_ot (fun e=>hF (.inr e)),heap_ot (fun e=>hF (.inl e)),heap_ot (fun e=>hF (.inl e))]
 ·have H0:=hid h0
  clear h0
  go_wp2_with (go_at_call 80;(with_reducible refine (run_any (w.heap.size+1+1+1) _ _ HCK.out HPR.out HOK.out).mono ?_);rintro e w9 hpost;obtain ⟨rfl,hb9⟩:=hpost.bad' H0.out;have HB9:=hid hb9;clear hpost hb9)
  have q2:BxL 39 (w.heap.size+1) [.int .i64 0,.int .i64 0] w9:=H23.keep ((HB9.block _ (by omega)).trans (HB8.block _ (by rw [HS3.out];omega)))
  have q3:BxL 29 (w.heap.size+1+1) [.int .i64 0] w9:=H33.keep ((HB9.block _ (by omega)).trans (HB8.block _ (by rw [HS3.out];omega)))
  have HBW:=hid (show Below w.heap.size w w9 from HB3.trans ((HB8.mono (by rw [HS3.out];omega)).trans (HB9.mono (by omega))))
  refine leaves_cons (f:=79) (args:=#[.pointer (some ⟨w.heap.size+1,0,none⟩),.pointer (some ⟨w.heap.size+1+1,0,none⟩)]) (by simp) (by simp [go_sem]) ?_
  refine (catch_fault (checkM p) _ _ _ _ _ _ q2 q3 (by omega)).mono ?_
  rintro e u' w'' ⟨rfl,hset,h2,h3,hbut⟩
  show Leaves _ _ _ _ [] (settle u') w''
  rw [hset]
  have k0:=h2.at 0 rfl
  have k1:=h2.at 1 rfl
  have k2:=h3.at 0 rfl
  have hbw:Below w.heap.size w w'':=HBW.trans (hbut.below HBW.size fun k hk=>by omega)
  simp [Leaves,results,Tryz.results34,go_sem,k0,k1,k2]
  exact hbw
theorem check_any (p:Pg) (a b c d:Value) (w:World) (hE:PrE w) (hp:PgV (·<w.heap.size) w a b c d p) (hok:PgOk p) :
  Calls Tryz.prog 34 #[.agg #[.int .i64 p.width,a,b,c,d]] w fun e w'=>e=.returned (.tuple #[posV (checkM p).1,.int .i64 (checkM p).2])/\Below w.heap.size w w':=check_k p a b c d w hE.toPrE0 hp hok
end Go.Proofs.YtoofbgoeipijcaaGreatDoor
