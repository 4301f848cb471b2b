/-
 A part.
-/
import Derived.Test.YtoofbgoeipijcaaGreatDoorVSPrX
namespace Go.Proofs.YtoofbgoeipijcaaGreatDoor
set_option maxRecDepth 100000
set_option maxHeartbeats 4000000
set_option linter.all false
open Go.RowKit Go.Shelf
attribute [local go_sem] Oper.semAt_some
theorem info_ag:(Tryz.prog.info? 43).map (fun i=>(i.zero,i.size,i.bytes))=some (some (.agg #[.string ⟨#[]⟩,.int .u64 0]),kAg.n,24):=by kernel_rfl
theorem copyargs_any (l:List Ag) (v:Value) (w:World) (h:SlG kAg (·<w.heap.size) w v l) (hl:l.length<=5864062014805) :
  Calls Tryz.prog 62 #[v] w fun e w'=>∃ v',e=.returned v'/\GA kAg w.heap.size 43 w' v' l/\Below w.heap.size w w':=by
 obtain ⟨p,c,rfl⟩:=h.slc
 have HS:=hid h;have HL:=hid hl
 clear h hl
 go_enter Tryz.func62,Tryz.ntmps62
 go_wp2
 go_loopw [3,4] (fun ov iv wr=>∃ k:Nat,k<=l.length/\iv=.int .i64 (k:Int)/\GA kAg w.heap.size 43 wr ov (l.take k)/\Below w.heap.size w wr) (fun _ iv _=>l.length - (intOf iv).toNat)
 case atStart=>exact ⟨0,Nat.zero_le _,rfl,GA.nil _ _ _ _,Below.refl _ _⟩
 case round =>
  obtain ⟨k,hk,rfl,hga,hbr⟩:=hrel
  obtain ⟨T,hT⟩:∃ T,l.take k=T:=⟨_,rfl⟩
  rw [hT] at hga
  have HTD:=hid hT
  clear hT
  obtain ⟨po,co,rfl⟩:=hga.slc
  by_cases hlt:k<l.length
  ·obtain ⟨b,off,rfl,hR,hcells⟩:=ag_at HS.out (by omega:0<l.length)
   obtain ⟨c0,c1⟩:=hcells k hlt
   have d0:=(hbr.cell (p:=⟨b,off+k*2,none⟩) hR).trans c0
   have d1:=(hbr.cell (p:=⟨b,off+k*2+1,none⟩) hR).trans c1
   have HSN:=hid (show l.take (k+1)=T++[l[k]] from by rw [List.take_succ_eq_append_getElem hlt,HTD.out])
   have HCL:=hid (show T.length+1<=5864062014805 from by rw [<- HTD.out,List.length_take];have:=HL.out;omega)
   have HLT:=hid hlt;have HBO:=hid hbr;have HGO:=hid hga
   clear hcells c0 c1 hR hbr hga HTD
   generalize l[k]=x at *
   clear hlt
   go_wp2_with (at_builtin;refine wpList_push (K:=kAg) (x:=x) (cs:=[.string ⟨x.nm.toArray⟩,.int .u64 (x.num:Int)]) (te:=43) rfl _ _ 37 rfl Tryz.underlying37 _ 24 info_ag rfl HGO.out rfl rfl rfl (by have:=HCL.out;omega) (by have:=HCL.out;unfold maxLen;omega) HBO.out.size ?_;intro v5 w5 hg5 hgr5 hm5;have HG5:=hid hg5;have HB5:=hid (below_push HGO.out HBO.out hgr5 HBO.out.size);clear hg5 hgr5 hm5)
   go_roundw
   case rel=>exact ⟨k+1,HLT.out,by rw [wrap_next HLT.out HS.len],by rw [HSN.out];exact HG5.out,HB5.out⟩
   case measure=>exact meas_next HLT.out HS.len
  ·obtain rfl:k=l.length:=by omega
   have HBR:=hid hbr;have HGA:=hid hga
   clear hlt hbr hga
   go_wp2_with fail
   go_ret
   have hga:=HGA.out
   have hT:=HTD.out
   rw [List.take_length] at hT
   subst hT
   exact ⟨_,rfl,hga,HBR.out⟩
theorem ag_keepOwn {B e:Nat} {w w':World} {v:Value} {l:List Ag} (h:GA kAg B e w v l) (hs:w.heap.size<=w'.heap.size) (hf:∀ j,v.ownBlock=some j->w'.heap[j]?=w.heap[j]?):GA kAg B e w' v l:=by
 obtain ⟨css,h1,h2⟩:=h.row
 exact ⟨⟨css,⟨h1.1,fun i hi hi'=>h1.2 i hi hi'⟩,owns_keepG h2 hf⟩⟩
theorem ag_base {B B' e:Nat} {w:World} {v:Value} {l:List Ag} (h:GA kAg B e w v l) (hB:B'<=B):GA kAg B' e w v l:=by
 obtain ⟨css,h1,h2⟩:=h.row
 refine ⟨⟨css,h1,h2.1,?_⟩⟩
 rcases h2.2 with h | ⟨g,cap,cur,h3,hb,h4⟩
 ·exact .inl h
 ·exact .inr ⟨g,cap,cur,h3,Nat.le_trans hB hb,h4⟩
theorem copyinstr_any (x:In) (v:Value) (w:World) (h:SlG kAg (·<w.heap.size) w v x.args) (hl:x.args.length<=5864062014805) :
  Calls Tryz.prog 18 #[.agg #[.int .u8 (x.kind:Int),.int .u8 (x.op:Int),.string ⟨x.dst.toArray⟩,.string ⟨x.nm.toArray⟩,v,.int .i64 x.pos.1,.int .i64 x.pos.2]] w fun e w' =>
   ∃ v',e=.returned (.agg #[.int .u8 (x.kind:Int),.int .u8 (x.op:Int),.string ⟨x.dst.toArray⟩,.string ⟨x.nm.toArray⟩,v',.int .i64 x.pos.1,.int .i64 x.pos.2])/\GA kAg w.heap.size 43 w' v' x.args/\Below w.heap.size w w':=by
 obtain ⟨pa,ca,rfl⟩:=h.slc
 have HSL:=hid h;have HL:=hid hl
 clear h hl
 go_enter Tryz.func18,Tryz.ntmps18
 go_upto_region 1 with fail
 obtain ⟨w2,hw2⟩:∃ W,(w.alloc (.cells #[.int .u8 (x.kind:Int),.int .u8 (x.op:Int),.string ⟨x.dst.toArray⟩,.string ⟨x.nm.toArray⟩,.slice pa x.args.length ca,.int .i64 x.pos.1,.int .i64 x.pos.2] 41)).alloc (.cells #[.int .u8 0,.int .u8 0,.string ⟨#[]⟩,.string ⟨#[]⟩,.slice none 0 0,.int .i64 0,.int .i64 0] 41)=W:=⟨_,rfl⟩
 have HB2:=hid (show Below w.heap.size w w2 from by rw [<- hw2];exact (bA).alloc (by rw [sA];omega) _)
 have HX2:=hid (show BxL 41 w.heap.size [.int .u8 (x.kind:Int),.int .u8 (x.op:Int),.string ⟨x.dst.toArray⟩,.string ⟨x.nm.toArray⟩,.slice pa x.args.length ca,.int .i64 x.pos.1,.int .i64 x.pos.2] w2 from by rw [<- hw2];exact (BxL.new _ _ _).al _)
 have HT2:=hid (show BxL 41 (w.heap.size+1) [.int .u8 0,.int .u8 0,.string ⟨#[]⟩,.string ⟨#[]⟩,.slice none 0 0,.int .i64 0,.int .i64 0] w2 from by rw [<- hw2];have:=BxL.new 41 (w.alloc (.cells #[.int .u8 (x.kind:Int),.int .u8 (x.op:Int),.string ⟨x.dst.toArray⟩,.string ⟨x.nm.toArray⟩,.slice pa x.args.length ca,.int .i64 x.pos.1,.int .i64 x.pos.2] 41)) [.int .u8 0,.int .u8 0,.string ⟨#[]⟩,.string ⟨#[]⟩,.slice none 0 0,.int .i64 0,.int .i64 0];rw [sA] at this;exact this)
 have HS2:=hid (show w2.heap.size=w.heap.size+2 from by rw [<- hw2,sA,sA])
 rw [hw2]
 clear hw2
 have x4:w2.cell? ⟨w.heap.size,4,none⟩=some (.slice pa x.args.length ca):=HX2.at 4 rfl
 go_wp2_with (go_at_call 62;(refine (copyargs_any x.args _ _ (HSL.out.below HB2.out) HL.out).mono ?_);rintro e w3 ⟨v3,rfl,hg3,hb⟩;obtain ⟨p3,q3,rfl⟩:=hg3.slc;obtain ⟨c0,c1,c2,c3,c4,c5,c6⟩:=(HX2.out.bel hb).p7;obtain ⟨e0,e1,e2,e3,e4,e5,e6⟩:=(HT2.out.bel hb).p7;have f0:w3.frozen? ⟨w.heap.size+1,0,none⟩=false:=(HT2.out.bel hb).fr 0;have f1:w3.frozen? ⟨w.heap.size+1,1,none⟩=false:=(HT2.out.bel hb).fr 1;have f2:w3.frozen? ⟨w.heap.size+1,2,none⟩=false:=(HT2.out.bel hb).fr 2;have f3:w3.frozen? ⟨w.heap.size+1,3,none⟩=false:=(HT2.out.bel hb).fr 3;have f4:w3.frozen? ⟨w.heap.size+1,4,none⟩=false:=(HT2.out.bel hb).fr 4;have f5:w3.frozen? ⟨w.heap.size+1,5,none⟩=false:=(HT2.out.bel hb).fr 5;have f6:w3.frozen? ⟨w.heap.size+1,6,none⟩=false:=(HT2.out.bel hb).fr 6;have f8:w3.frozen? ⟨w.heap.size,4,none⟩=false:=(HX2.out.bel hb).fr 4;have HT3:=hid (HT2.out.bel hb);have HG3:=hid hg3;have HB3:=hid (HB2.out.trans (hb.mono HB2.out.size));clear hg3 hb x4)
 have hs:=HS2.out
 have hs3:=HB3.size
 have HT3:=HT3.out
 obtain ⟨w4,hw4⟩:∃ W,w3.setCell ⟨w.heap.size,4,none⟩ (.slice p3 x.args.length q3)=W:=⟨_,rfl⟩
 have HT4:BxL 41 (w.heap.size+1) [.int .u8 0,.int .u8 0,.string ⟨#[]⟩,.string ⟨#[]⟩,.slice none 0 0,.int .i64 0,.int .i64 0] w4:=by rw [<- hw4];exact HT3.keep (heap_ot (by omega) _)
 obtain ⟨w5,hw5⟩:∃ W,((((((w4.setCell ⟨w.heap.size+1,0,none⟩ (.int .u8 (x.kind:Int))).setCell ⟨w.heap.size+1,1,none⟩ (.int .u8 (x.op:Int))).setCell ⟨w.heap.size+1,2,none⟩ (.string ⟨x.dst.toArray⟩)).setCell ⟨w.heap.size+1,3,none⟩ (.string ⟨x.nm.toArray⟩)).setCell ⟨w.heap.size+1,4,none⟩ (.slice p3 x.args.length q3)).setCell ⟨w.heap.size+1,5,none⟩ (.int .i64 x.pos.1)).setCell ⟨w.heap.size+1,6,none⟩ (.int .i64 x.pos.2)=W:=⟨_,rfl⟩
 rw [hw4,hw5]
 have HT5:BxL 41 (w.heap.size+1) [.int .u8 (x.kind:Int),.int .u8 (x.op:Int),.string ⟨x.dst.toArray⟩,.string ⟨x.nm.toArray⟩,.slice p3 x.args.length q3,.int .i64 x.pos.1,.int .i64 x.pos.2] w5:=by rw [<- hw5];exact ((((((HT4.set 0 _).set 1 _).set 2 _).set 3 _).set 4 _).set 5 _).set 6 _
 have HO5:∀ k,k ≠ w.heap.size->k ≠ w.heap.size+1->w5.heap[k]?=w3.heap[k]?:=fun k h1 h2=>by rw [<- hw5,<- hw4,heap_ot h2,heap_ot h2,heap_ot h2,heap_ot h2,heap_ot h2,heap_ot h2,heap_ot h2,heap_ot h1]
 have HZ5:w5.heap.size=w3.heap.size:=by rw [<- hw5,<- hw4];simp only [World.size_setCell]
 have HQ5:w5.os=w3.os/\w5.tape=w3.tape/\w5.output=w3.output:=by rw [<- hw5,<- hw4];simp only [World.setCell,and_self]
 obtain ⟨e0,e1,e2,e3,e4,e5,e6⟩:=HT5.p7
 clear hw4 hw5 HT4 HT5
 refine bodyPost_ret (v := .agg #[.int .u8 (x.kind:Int),.int .u8 (x.op:Int),.string ⟨x.dst.toArray⟩,.string ⟨x.nm.toArray⟩,.slice p3 x.args.length q3,.int .i64 x.pos.1,.int .i64 x.pos.2]) (by simp [results,Tryz.results18,go_sem,e0,e1,e2,e3,e4,e5,e6]) rfl ?_
 refine ⟨_,rfl,?_,?_⟩
 ·refine ag_keepOwn (ag_base HG3.out (by omega)) (by rw [HZ5];exact Nat.le_refl _) fun j hj=>?_
  have hj2:=(HG3.lt j hj).1
  exact HO5 j (by omega) (by omega)
 ·refine HB3.trans (But.below (F:=fun k=>k=w.heap.size\/k=w.heap.size+1) ⟨HQ5.1,HQ5.2.1,HQ5.2.2,by rw [HZ5];exact Nat.le_refl _,fun k hk hF=>?_⟩ HB3.size fun k hk=>by omega)
  exact HO5 k (fun e=>hF (.inl e)) (fun e=>hF (.inr e))
theorem below_drewN (w:World) (n:Nat):Below w.heap.size w (w.drewN n):=⟨rfl,rfl,rfl,Nat.le_refl _,fun _ _=>rfl⟩
theorem eqargs_same (l:List Ag) (va vb:Value) (R R':Nat->Prop) (w:World) (ha:SlG kAg R w va l) (hb:SlG kAg R' w vb l) :
  Calls Tryz.prog 99 #[va,vb] w fun e w'=>e=.returned (.bool true)/\∃ n,w.drewN n=w':=by
 obtain ⟨pa,ca,rfl⟩:=ha.slc
 obtain ⟨pb,cb,rfl⟩:=hb.slc
 have HA:=hid ha;have HB:=hid hb
 clear ha hb
 go_enter Tryz.func99,Tryz.ntmps99
 go_wp2
 go_loopw [4,5] (fun rv iv wr=>∃ (k n:Nat),k<=l.length/\rv=.bool false/\iv=.int .i64 k/\wr=w.drewN n) (fun _ iv _=>l.length - (intOf iv).toNat)
 case atStart=>exact ⟨0,0,Nat.zero_le _,rfl,rfl,rfl⟩
 case round =>
  obtain ⟨k,n,hk,rfl,rfl,rfl⟩:=hrel
  by_cases hlt:k<l.length
  ·obtain ⟨b1,o1,rfl,hR1,hc1⟩:=ag_at HA.out (by omega:0<l.length)
   obtain ⟨b2,o2,rfl,hR2,hc2⟩:=ag_at HB.out (by omega:0<l.length)
   obtain ⟨c0,c1⟩:=hc1 k hlt
   obtain ⟨d0,d1⟩:=hc2 k hlt
   have HLT:=hid hlt
   clear hc1 hc2
   generalize l[k]=x at *
   clear hlt
   have hlt:=HLT.out
   go_wp2_with fail
   go_quiet (fail)
   go_wp2
   go_roundw
   case rel=>exact ⟨k+1,n+nq,HLT.out,by first | rfl | trivial,by rw [wrap_next HLT.out HA.len],by first | rfl | rw [World.drewN_drewN]⟩
   case measure=>exact meas_next HLT.out HA.len
  ·obtain rfl:k=l.length:=by omega
   clear hlt
   go_wp2
   go_ret
   exact ⟨rfl,n,rfl⟩
theorem eqinstr_same (x:In) (va vb:Value) (w:World) (ha:SlG kAg (·<w.heap.size) w va x.args) (hb:SlG kAg (·<w.heap.size) w vb x.args) :
  Calls Tryz.prog 64 #[.agg #[.int .u8 (x.kind:Int),.int .u8 (x.op:Int),.string ⟨x.dst.toArray⟩,.string ⟨x.nm.toArray⟩,va,.int .i64 x.pos.1,.int .i64 x.pos.2],.agg #[.int .u8 (x.kind:Int),.int .u8 (x.op:Int),.string ⟨x.dst.toArray⟩,.string ⟨x.nm.toArray⟩,vb,.int .i64 x.pos.1,.int .i64 x.pos.2]] w fun e w'=>e=.returned (.bool true)/\Below w.heap.size w w':=by
 obtain ⟨pa,ca,rfl⟩:=ha.slc
 obtain ⟨pb,cb,rfl⟩:=hb.slc
 have HA:=hid ha;have HB:=hid hb
 clear ha hb
 go_enter Tryz.func64,Tryz.ntmps64
 go_upto_region 1 with fail
 obtain ⟨w2,hw2⟩:∃ W,(w.alloc (.cells #[.int .u8 (x.kind:Int),.int .u8 (x.op:Int),.string ⟨x.dst.toArray⟩,.string ⟨x.nm.toArray⟩,.slice pa x.args.length ca,.int .i64 x.pos.1,.int .i64 x.pos.2] 41)).alloc (.cells #[.int .u8 (x.kind:Int),.int .u8 (x.op:Int),.string ⟨x.dst.toArray⟩,.string ⟨x.nm.toArray⟩,.slice pb x.args.length cb,.int .i64 x.pos.1,.int .i64 x.pos.2] 41)=W:=⟨_,rfl⟩
 have HB2:=hid (show Below w.heap.size w w2 from by rw [<- hw2];exact (bA).alloc (by rw [sA];omega) _)
 have HX:=hid (show BxL 41 w.heap.size [.int .u8 (x.kind:Int),.int .u8 (x.op:Int),.string ⟨x.dst.toArray⟩,.string ⟨x.nm.toArray⟩,.slice pa x.args.length ca,.int .i64 x.pos.1,.int .i64 x.pos.2] w2 from by rw [<- hw2];exact (BxL.new _ _ _).al _)
 have HY:=hid (show BxL 41 (w.heap.size+1) [.int .u8 (x.kind:Int),.int .u8 (x.op:Int),.string ⟨x.dst.toArray⟩,.string ⟨x.nm.toArray⟩,.slice pb x.args.length cb,.int .i64 x.pos.1,.int .i64 x.pos.2] w2 from by rw [<- hw2];have:=BxL.new 41 (w.alloc (.cells #[.int .u8 (x.kind:Int),.int .u8 (x.op:Int),.string ⟨x.dst.toArray⟩,.string ⟨x.nm.toArray⟩,.slice pa x.args.length ca,.int .i64 x.pos.1,.int .i64 x.pos.2] 41)) [.int .u8 (x.kind:Int),.int .u8 (x.op:Int),.string ⟨x.dst.toArray⟩,.string ⟨x.nm.toArray⟩,.slice pb x.args.length cb,.int .i64 x.pos.1,.int .i64 x.pos.2];rw [sA] at this;exact this)
 rw [hw2]
 clear hw2
 have c0:∀ m,(w2.drewN m).cell? ⟨w.heap.size,0,none⟩=some (.int .u8 (x.kind:Int)):=fun m=>HX.at 0 rfl
 have c1:∀ m,(w2.drewN m).cell? ⟨w.heap.size,1,none⟩=some (.int .u8 (x.op:Int)):=fun m=>HX.at 1 rfl
 have c2:∀ m,(w2.drewN m).cell? ⟨w.heap.size,2,none⟩=some (.string ⟨x.dst.toArray⟩):=fun m=>HX.at 2 rfl
 have c3:∀ m,(w2.drewN m).cell? ⟨w.heap.size,3,none⟩=some (.string ⟨x.nm.toArray⟩):=fun m=>HX.at 3 rfl
 have c4:∀ m,(w2.drewN m).cell? ⟨w.heap.size,4,none⟩=some (.slice pa x.args.length ca):=fun m=>HX.at 4 rfl
 have c5:∀ m,(w2.drewN m).cell? ⟨w.heap.size,5,none⟩=some (.int .i64 x.pos.1):=fun m=>HX.at 5 rfl
 have c6:∀ m,(w2.drewN m).cell? ⟨w.heap.size,6,none⟩=some (.int .i64 x.pos.2):=fun m=>HX.at 6 rfl
 have d0:∀ m,(w2.drewN m).cell? ⟨w.heap.size+1,0,none⟩=some (.int .u8 (x.kind:Int)):=fun m=>HY.at 0 rfl
 have d1:∀ m,(w2.drewN m).cell? ⟨w.heap.size+1,1,none⟩=some (.int .u8 (x.op:Int)):=fun m=>HY.at 1 rfl
 have d2:∀ m,(w2.drewN m).cell? ⟨w.heap.size+1,2,none⟩=some (.string ⟨x.dst.toArray⟩):=fun m=>HY.at 2 rfl
 have d3:∀ m,(w2.drewN m).cell? ⟨w.heap.size+1,3,none⟩=some (.string ⟨x.nm.toArray⟩):=fun m=>HY.at 3 rfl
 have d4:∀ m,(w2.drewN m).cell? ⟨w.heap.size+1,4,none⟩=some (.slice pb x.args.length cb):=fun m=>HY.at 4 rfl
 have d5:∀ m,(w2.drewN m).cell? ⟨w.heap.size+1,5,none⟩=some (.int .i64 x.pos.1):=fun m=>HY.at 5 rfl
 have d6:∀ m,(w2.drewN m).cell? ⟨w.heap.size+1,6,none⟩=some (.int .i64 x.pos.2):=fun m=>HY.at 6 rfl
 have p0:=c0 0
 have q0:=d0 0
 rw [show w2.drewN 0=w2 from rfl] at p0 q0
 have p1:=c1 0
 have q1:=d1 0
 rw [show w2.drewN 0=w2 from rfl] at p1 q1
 have p2:=c2 0
 have q2:=d2 0
 rw [show w2.drewN 0=w2 from rfl] at p2 q2
 have p3:=c3 0
 have q3:=d3 0
 rw [show w2.drewN 0=w2 from rfl] at p3 q3
 have p4:=c4 0
 have q4:=d4 0
 rw [show w2.drewN 0=w2 from rfl] at p4 q4
 have p5:=c5 0
 have q5:=d5 0
 rw [show w2.drewN 0=w2 from rfl] at p5 q5
 have p6:=c6 0
 have q6:=d6 0
 rw [show w2.drewN 0=w2 from rfl] at p6 q6
 go_wp2_with (go_at_call 99;(refine (eqargs_same x.args _ _ _ _ _ (HA.out.below HB2.out) (HB.out.below HB2.out)).mono ?_);rintro e w3 ⟨rfl,n3,rfl⟩)
 go_ret
 exact ⟨rfl,HB2.trans ((below_drewN w2 n3).mono HB2.size)⟩
theorem conv8d (k:Nat) (h:k<10) (w:World):(convert 51 9 (.slice (some ⟨w.heap.size,0,none⟩) 1 1)).run Tryz.prog (w.alloc (.cells #[.int .u8 (48+(k:Int))] 5))=.ok (.string ⟨#[UInt8.ofNat (48+k)]⟩) (w.alloc (.cells #[.int .u8 (48+(k:Int))] 5)):=by
 have e:((UInt8.ofNat (48+k)).toNat:Int)=48+(k:Int):=by rw [UInt8.toNat_ofNat'];omega
 rw [<- e]
 exact conv1 _ w
theorem rnum_any (u:Nat) (hu:u<18446744073709551616) (w:World):Calls Tryz.prog 52 #[.int .u64 (u:Int)] w fun e w'=>e=.returned (.string ⟨(Lib.decDigits u).toArray⟩)/\Below w.heap.size w w':=by
 induction u using Nat.strongRecOn generalizing w with
 | _ u ih =>
  have HU:=hid hu
  obtain ⟨r,hr⟩:∃ r,u % 10=r:=⟨_,rfl⟩
  have hr10:r<10:=by omega
  have hrz:(u:Int) % 10=(r:Int):=by omega
  have hrt:(u:Int).tmod 10=(r:Int):=by rw [Int.tmod_eq_emod_of_nonneg (by omega)];exact hrz
  obtain ⟨C,hC⟩:∃ C,UInt8.ofNat (48+r)=C:=⟨_,rfl⟩
  have hcv:=fun w=>conv8d r hr10 w
  rw [hC] at hcv
  by_cases h:u<10
  ·have HD:=hid (show Lib.decDigits u=[C] from by rw [<- hC,Lib.decDigits_one h,<- hr];congr;omega)
   have h':decide ((u:Int)<10)=true:=by simp;omega
   clear ih hu h hC
   go_enter Tryz.func52,Tryz.ntmps52
   go_wp2_with fail
   go_ret
   exact ⟨by rw [HD.out];rfl,bA⟩
  ·obtain ⟨q,hq⟩:∃ q,u / 10=q:=⟨_,rfl⟩
   have HD:=hid (show Lib.decDigits u=Lib.decDigits q++[C] from by rw [Lib.decDigits,dif_neg h,hr,hq,hC])
   have h':decide ((u:Int)<10)=false:=by simp;omega
   have HIH:=hid (ih q (by omega) (by omega))
   have hqz:(u:Int) / 10=(q:Int):=by omega
   have hqt:(u:Int).tdiv 10=(q:Int):=by rw [Int.tdiv_eq_ediv_of_nonneg (by omega)];exact hqz
   have hql:q<18446744073709551616:=by omega
   obtain ⟨D,hDq⟩:∃ D,Lib.decDigits q=D:=⟨_,rfl⟩
   rw [hDq] at HD HIH
   have hk1:¬ 9223372036854775807<D.length+1:=by rw [<- hDq,Lib.decDigits_length];have:=Lib.nDigits_le20 q hql;omega
   clear ih hu h hC hq hDq hr
   go_enter Tryz.func52,Tryz.ntmps52
   go_wp2_with (go_at_call 52;(with_reducible refine (HIH.out _).mono ?_);rintro e w1 ⟨rfl,hb1⟩;have HB1:=hid (((Below.refl w.heap.size w).alloc lrf _).trans (hb1.mono (by rw [sA];omega)));clear hb1)
   go_ret
   refine ⟨?_,HB1.out⟩
   rw [HD.out]
   show Ending.returned (.string (⟨D.toArray⟩++⟨#[C]⟩))=_
   rw [ByteArray.mk_append_mk]
theorem jn_step (l:List Bs) (k:Nat) (hk:k<l.length):jn (l.take (k+1))=if k=0 then l[k] else jn (l.take k)++[32]++l[k]:=by
 rcases l with _ | ⟨x,r⟩
 ·simp at hk
 rcases k with _ | m
 ·rw [if_pos rfl];exact Lib.join_one x [32]
 ·have hm:m<r.length:=by simpa using hk
  rw [if_neg (by omega),List.take_succ_cons,List.take_succ_eq_append_getElem hm,List.take_succ_cons,jn_snoc]
  rfl
theorem rjoin_any (l:List Bs) (v:Value) (R:Nat->Prop) (w:World) (h:SlG kStr R w v l) (hl:l.length<=1000) (hs:∀ s ∈ l,s.length<=1000) :
  Calls Tryz.prog 53 #[v] w fun e w'=>e=.returned (.string ⟨(jn l).toArray⟩)/\Below w.heap.size w w':=by
 obtain ⟨p,c,rfl⟩:=h.slc
 have HS:=hid h;have HL:=hid hl;have HSS:=hid hs
 clear h hl hs
 go_enter Tryz.func53,Tryz.ntmps53
 go_wp2
 go_loopw [3,4] (fun ov iv wr=>∃ k:Nat,k<=l.length/\iv=.int .i64 (k:Int)/\ov=.string ⟨(jn (l.take k)).toArray⟩/\wr=w) (fun _ iv _=>l.length - (intOf iv).toNat)
 case atStart=>exact ⟨0,Nat.zero_le _,rfl,rfl,rfl⟩
 case round =>
  obtain ⟨k,hk,rfl,rfl,rfl⟩:=hrel
  by_cases hlt:k<l.length
  ·obtain ⟨b,off,rfl,hR,hcells⟩:=str_at HS.out (by omega:0<l.length)
   have hc:=hcells k hlt
   have HST:=hid (jn_step l k hlt)
   have hs1:(l[k]).length<=1000:=HSS.out _ (List.getElem_mem hlt)
   have hs2:(jn (l.take k)).length<=1001000:=Nat.le_trans (jn_len _ 1000 fun s hs=>HSS.out s (List.mem_of_mem_take hs)) (by rw [List.length_take];have:=HL.out;have:min k l.length<=1000:=(by omega);omega)
   have HLT:=hid hlt
   obtain ⟨J,hJ⟩:∃ J,jn (l.take k)=J:=⟨_,rfl⟩
   rw [hJ] at HST hs2
   rw [hJ]
   have hJ0:k=0->J=[]:=fun h=>by subst h;exact hJ.symm
   clear hcells hR hJ
   generalize l[k]=x at *
   have hk1:¬ 9223372036854775807<J.length+1:=by omega
   have hk2:¬ 9223372036854775807<J.length+1+x.length:=by omega
   have hk3:¬ 9223372036854775807<J.length+x.length:=by omega
   by_cases h0:k=0
   ·have g0:decide ((0:Int)<(k:Int))=false:=by simp;omega
    have HJ0:=hid (show jn (l.take (k+1))=x from by rw [HST.out,if_pos h0])
    have g0n:¬ (0<k):=by omega
    obtain rfl:=hJ0 h0
    clear hs1 hs2 h0
    go_wp2_with fail
    go_roundw
    case rel=>exact ⟨k+1,HLT.out,by rw [show ((k+1:Nat):Int)=(k:Int)+1 from by omega],by rw [HJ0.out,ByteArray.mk_append_mk];simp,trivial⟩
    case measure=>have:=HLT.out;show l.length - ((k:Int)+1).toNat<l.length - ((k:Int)).toNat;omega
   ·have g0:decide ((0:Int)<(k:Int))=true:=by simp;omega
    have HJ0:=hid (show jn (l.take (k+1))=J++[32]++x from by rw [HST.out,if_neg h0])
    have g0n:0<k:=by omega
    clear hs1 hs2 hJ0 h0
    go_wp2_with fail
    go_roundw
    case rel =>
     refine ⟨k+1,HLT.out,by rw [wrap_next HLT.out HS.len],?_,trivial⟩
     rw [HJ0.out,ByteArray.mk_append_mk,ByteArray.mk_append_mk]
    case measure=>exact meas_next HLT.out HS.len
  ·obtain rfl:k=l.length:=by omega
   clear hlt
   go_wp2_with fail
   go_ret
   exact ⟨by rw [List.take_length];rfl,Below.refl _ _⟩
theorem rargs_any (l:List Ag) (v:Value) (w:World) (h:SlG kAg (·<w.heap.size) w v l) (hl:l.length<=100000) (hn:∀ a ∈ l,a.num<18446744073709551616) :
  Calls Tryz.prog 97 #[v] w fun e w'=>∃ v',e=.returned v'/\GA kStr w.heap.size 9 w' v' (l.map argT)/\Below w.heap.size w w':=by
 obtain ⟨p,c,rfl⟩:=h.slc
 have HS:=hid h;have HL:=hid hl;have HNU:=hid hn
 clear h hl hn
 go_enter Tryz.func97,Tryz.ntmps97
 go_wp2
 go_loopw [3,4] (fun ov iv wr=>∃ k:Nat,k<=l.length/\iv=.int .i64 (k:Int)/\GA kStr w.heap.size 9 wr ov ((l.take k).map argT)/\Below w.heap.size w wr) (fun _ iv _=>l.length - (intOf iv).toNat)
 case atStart=>exact ⟨0,Nat.zero_le _,rfl,GA.nil _ _ _ _,Below.refl _ _⟩
 case round =>
  obtain ⟨k,hk,rfl,hga,hbr⟩:=hrel
  obtain ⟨T,hT⟩:∃ T,(l.take k).map argT=T:=⟨_,rfl⟩
  rw [hT] at hga
  have HTD:=hid hT
  clear hT
  obtain ⟨po,co,rfl⟩:=hga.slc
  by_cases hlt:k<l.length
  ·obtain ⟨b,off,rfl,hR,hcells⟩:=ag_at HS.out (by omega:0<l.length)
   obtain ⟨c0,c1⟩:=hcells k hlt
   have d0:=(hbr.cell (p:=⟨b,off+k*2,none⟩) hR).trans c0
   have d1:=(hbr.cell (p:=⟨b,off+k*2+1,none⟩) hR).trans c1
   have HSN:=hid ((args_snoc l k hlt).trans (by rw [HTD.out]))
   have HNK:=hid (HNU.out l[k] (List.getElem_mem hlt))
   have HCL:=hid (show T.length<=100000 from by rw [<- HTD.out,List.length_map,List.length_take];have:=HL.out;omega)
   have HLT:=hid hlt;have HBO:=hid hbr;have HGO:=hid hga
   clear hcells c0 c1 hR hbr hga HTD
   generalize l[k]=x at *
   by_cases h0:x.nm=[]
   ·have t4:x.nm.isEmpty=true:=by rw [h0];rfl
    have HA:=hid (show argT x=Lib.decDigits x.num from by unfold argT;rw [if_pos h0])
    clear h0
    go_wp2_with (first
     | (go_at_call 52;(refine (rnum_any x.num HNK.out _).mono ?_);rintro e w1 ⟨rfl,hb1⟩;have HB1:=hid (HBO.out.trans (hb1.mono HBO.out.size));have HG1:=hid (HGO.out.keep hb1);clear hb1)
     | (at_builtin;refine wpList_push (K:=kStr) (x:=Lib.decDigits x.num) (cs:=[.string ⟨(Lib.decDigits x.num).toArray⟩]) (te:=9) rfl _ _ 22 rfl Tryz.underlying22 _ 16 info_strG rfl HG1.out rfl rfl rfl (by have:=HCL.out;omega) (by have:=HCL.out;unfold maxLen;omega) HB1.out.size ?_;intro v5 w5 hg5 hgr5 hm5;have HG5:=hid hg5;have HB5:=hid (below_push HG1.out HB1.out hgr5 HB1.out.size);clear hg5 hgr5 hm5))
    go_roundw
    case rel=>exact ⟨k+1,HLT.out,by rw [wrap_next HLT.out HS.len],by rw [HSN.out,HA.out];exact HG5.out,HB5.out⟩
    case measure=>exact meas_next HLT.out HS.len
   ·have t4:x.nm.isEmpty=false:=by simpa using h0
    have HA:=hid (show argT x=x.nm from by unfold argT;rw [if_neg h0])
    clear h0
    go_wp2_with (at_builtin;refine wpList_push (K:=kStr) (x:=x.nm) (cs:=[.string ⟨x.nm.toArray⟩]) (te:=9) rfl _ _ 22 rfl Tryz.underlying22 _ 16 info_strG rfl HGO.out rfl rfl rfl (by have:=HCL.out;omega) (by have:=HCL.out;unfold maxLen;omega) HBO.out.size ?_;intro v5 w5 hg5 hgr5 hm5;have HG5:=hid hg5;have HB5:=hid (below_push HGO.out HBO.out hgr5 HBO.out.size);clear hg5 hgr5 hm5)
    go_roundw
    case rel=>exact ⟨k+1,HLT.out,by rw [wrap_next HLT.out HS.len],by rw [HSN.out,HA.out];exact HG5.out,HB5.out⟩
    case measure=>exact meas_next HLT.out HS.len
  ·obtain rfl:k=l.length:=by omega
   have HBR:=hid hbr;have HGA:=hid hga
   clear hlt hbr hga
   go_wp2_with fail
   go_ret
   have hga:=HGA.out
   have hT:=HTD.out
   rw [List.take_length] at hT
   subst hT
   exact ⟨_,rfl,hga,HBR.out⟩
end Go.Proofs.YtoofbgoeipijcaaGreatDoor
