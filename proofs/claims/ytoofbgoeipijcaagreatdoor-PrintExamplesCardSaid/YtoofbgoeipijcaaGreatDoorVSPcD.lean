/-
 A part.
-/
import Derived.Test.YtoofbgoeipijcaaGreatDoorVSPcC
namespace Go.Proofs.YtoofbgoeipijcaaGreatDoor
set_option maxRecDepth 100000
set_option maxHeartbeats 8000000
set_option linter.all false
open Go.RowKit Go.Shelf
attribute [local go_sem] Oper.semAt_some
def TB (t:TypeId) (w:World) (k:Nat):Prop:=∃ cur fz,w.heap[k]?=some (.cells cur t fz)
theorem TB.keep {t:TypeId} {w w':World} {k:Nat} (h:TB t w k) (e:w'.heap[k]?=w.heap[k]?):TB t w' k:=let ⟨c,f,h⟩:=h;⟨c,f,e.trans h⟩
theorem TB.own {B e n m:Nat} {w:World} {v:Value} {xs:List Value} (h:w.ownsRow B e m v n xs):∀ k,v.ownBlock=some k->TB e w k:=by
 intro k hk
 rcases h.2 with ⟨rfl,_⟩ | ⟨g,cap,cur,rfl,_,hg,_⟩
 ·cases hk
 ·cases hk;exact ⟨cur,(0,0),hg⟩
def OwT {α:Type} (K:EK α) (R:Nat->Prop) (e:TypeId) (w:World) (v:Value) (l:List α):Prop :=
 ∃ css,Each K R w css l/\w.ownsRow 0 e K.n v l.length css.flatten/\∀ k,v.ownBlock=some k->R k
theorem OwT.slc {α:Type} {K:EK α} {R:Nat->Prop} {e:TypeId} {w:World} {v:Value} {l:List α} (h:OwT K R e w v l):∃ p c,v=.slice p l.length c:=let ⟨_,_,h,_⟩:=h;own_sliceG h
theorem OwT.keep {α:Type} {K:EK α} {R R':Nat->Prop} {e:TypeId} {w w':World} {v:Value} {l:List α} (h:OwT K R e w v l) (hf:∀ k,R k->R' k/\w'.heap[k]?=w.heap[k]?):OwT K R' e w' v l :=
 let ⟨css,h1,h2,h3⟩:=h;⟨css,h1.keep hf,owns_keepG h2 fun j hj=>(hf j (h3 j hj)).2,fun k hk=>(hf k (h3 k hk)).1⟩
def kInT:EK In where
 n:=7
 pos:=by omega
 E R w cs x:=∃ av,cs=[.int .u8 (x.kind:Int),.int .u8 (x.op:Int),.string ⟨x.dst.toArray⟩,.string ⟨x.nm.toArray⟩,av,.int .i64 x.pos.1,.int .i64 x.pos.2]/\SlG kAg (fun k=>R k/\TB 43 w k) w av x.args
 len h:=by obtain ⟨av,rfl,_⟩:=h;rfl
 one h:=by obtain ⟨av,rfl,hs⟩:=h;intro u hu;simp at hu;rcases hu with rfl | rfl | rfl | rfl | rfl | rfl | rfl <;> first | rfl | exact hs.one
 keep h hf:=let ⟨av,e,hs⟩:=h;⟨av,e,hs.keep fun k hk=>⟨⟨(hf k hk.1).1,hk.2.keep (hf k hk.1).2⟩,(hf k hk.1).2⟩⟩
def kFuT:EK Fu where
 n:=5
 pos:=by omega
 E R w cs x:=∃ pv cv,cs=[.string ⟨x.nm.toArray⟩,pv,cv,.int .i64 x.pos.1,.int .i64 x.pos.2]/\SlG kStr (fun k=>R k/\TB 9 w k) w pv x.params/\OwT kInT R 41 w cv x.code
 len h:=by obtain ⟨pv,cv,rfl,_⟩:=h;rfl
 one h:=by obtain ⟨pv,cv,rfl,hp,hc⟩:=h;obtain ⟨p,c,rfl⟩:=hc.slc;intro u hu;simp at hu;rcases hu with rfl | rfl | rfl | rfl | rfl <;> first | rfl | exact hp.one
 keep h hf:=let ⟨pv,cv,e,hp,hc⟩:=h;⟨pv,cv,e,hp.keep fun k hk=>⟨⟨(hf k hk.1).1,hk.2.keep (hf k hk.1).2⟩,(hf k hk.1).2⟩,hc.keep hf⟩
theorem inT_in {R:Nat->Prop} {w:World} {cs:List Value} {x:In} (h:kInT.E R w cs x):kIn.E R w cs x:=let ⟨av,e,hs⟩:=h;⟨av,e,hs.weaken fun _ hk=>hk.1⟩
theorem OwT.sl {R:Nat->Prop} {e:TypeId} {w:World} {v:Value} {l:List In} (h:OwT kInT R e w v l) (hl:l.length<=140737488355328):SlG kIn R w v l:=by
 obtain ⟨css,h1,h2,h3⟩:=h
 exact SlG.ofOwn (K:=kIn) ⟨h1.1,fun i hi hi'=>inT_in (h1.2 i hi hi')⟩ h2 hl h3
theorem GF.owt {B e:Nat} {w:World} {v:Value} {l:List In} (h:GF kInT B e w v l):OwT kInT (fun k=>B<=k/\k<w.heap.size) e w v l:=by
 obtain ⟨css,h1,h2⟩:=h.row
 refine ⟨css,h1.weaken fun k hk=>⟨hk.1,hk.2.1⟩,⟨h2.1,?_⟩,fun k hk=>h2.lt k hk⟩
 rcases h2.2 with h | ⟨g,cap,cur,h3,hb,h4⟩
 ·exact .inl h
 ·exact .inr ⟨g,cap,cur,h3,Nat.zero_le _,h4⟩
theorem GF.slT {α:Type} {K:EK α} {B e:Nat} {w:World} {v:Value} {l:List α} (h:GF K B e w v l) (hl:l.length<=140737488355328) (hK:∀ {R R':Nat->Prop} {cs:List Value} {x:α},K.E R w cs x->K.E R' w cs x):SlG K (fun k=>(B<=k/\k<w.heap.size)/\TB e w k) w v l:=by
 obtain ⟨css,h1,h2⟩:=h.row
 exact SlG.ofOwn ⟨h1.1,fun i hi hi'=>hK (h1.2 i hi hi')⟩ h2 hl fun k hk=>⟨h2.lt k hk,TB.own h2 k hk⟩
theorem info_inT:(Tryz.prog.info? 41).map (fun i=>(i.zero,i.size,i.bytes))=some (some (.agg #[.int .u8 0,.int .u8 0,.string ⟨#[]⟩,.string ⟨#[]⟩,.slice none 0 0,.int .i64 0,.int .i64 0]),kInT.n,80):=info_inG
theorem copyinsT_any (l:List In) (v:Value) (w:World) (h:SlG kIn (·<w.heap.size) w v l) (hl:l.length<=1000000000000) (ha:∀ x ∈ l,x.args.length<=5864062014805) :
  Calls Tryz.prog 44 #[v] w fun e w'=>∃ v',e=.returned v'/\GF kInT w.heap.size 41 w' v' l/\Below w.heap.size w w':=by
 obtain ⟨p,c,rfl⟩:=h.slc
 have HS:=hid h;have HL:=hid hl;have HA:=hid ha
 clear h hl ha
 go_enter Tryz.func44,Tryz.ntmps44
 go_wp2
 go_loopw [3,4] (fun ov iv wr=>∃ k:Nat,k<=l.length/\iv=.int .i64 (k:Int)/\GF kInT w.heap.size 41 wr ov (l.take k)/\Below w.heap.size w wr) (fun _ iv _=>l.length - (intOf iv).toNat)
 case atStart=>exact ⟨0,Nat.zero_le _,rfl,GF.nil _ _ _ _,Below.refl _ _⟩
 case round =>
  obtain ⟨k,hk,rfl,hga,hbr⟩:=hrel
  obtain ⟨T,hT⟩:∃ T,l.take k=T:=⟨_,rfl⟩
  rw [hT] at hga
  have HTD:=hid hT
  clear hT
  obtain ⟨po,co,rfl⟩:=hga.slc
  by_cases hlt:k<l.length
  ·obtain ⟨b,off,rfl,hR,hcells⟩:=in_at HS.out (by omega:0<l.length)
   obtain ⟨pi,ci,hargs,q0,q1,q2,q3,q4,q5,q6⟩:=hcells k hlt
   have q0:=(hbr.cell (p:=⟨b,off+k*7,none⟩) hR).trans q0
   have q1:=(hbr.cell (p:=⟨b,off+k*7+1,none⟩) hR).trans q1
   have q2:=(hbr.cell (p:=⟨b,off+k*7+2,none⟩) hR).trans q2
   have q3:=(hbr.cell (p:=⟨b,off+k*7+3,none⟩) hR).trans q3
   have q4:=(hbr.cell (p:=⟨b,off+k*7+4,none⟩) hR).trans q4
   have q5:=(hbr.cell (p:=⟨b,off+k*7+5,none⟩) hR).trans q5
   have q6:=(hbr.cell (p:=⟨b,off+k*7+6,none⟩) hR).trans q6
   have HAR:=hid (hargs.below hbr)
   have HSN:=hid (show l.take (k+1)=T++[l[k]] from by rw [List.take_succ_eq_append_getElem hlt,HTD.out])
   have HCL:=hid (show T.length+1<=1000000000000 from by rw [<- HTD.out,List.length_take];have:=HL.out;omega)
   have HAL:=hid (HA.out l[k] (List.getElem_mem hlt))
   have HLT:=hid hlt;have HBO:=hid hbr;have HGO:=hid hga
   clear hcells hR hbr hga HTD hargs
   generalize l[k]=x at *
   clear hlt
   go_wp2_with (first
    | (go_at_call 18;(refine (copyinstr_any x _ _ HAR.out HAL.out).mono ?_);rintro e w1 ⟨v1,rfl,hg1,hb1⟩;obtain ⟨p1,c1,rfl⟩:=hg1.slc;have HG1:=hid (hg1.gfA.slT (by have:=HAL.out;omega) (fun h=>h));have HB1:=hid (HBO.out.trans (hb1.mono HBO.out.size));have HGK:=hid (HGO.out.keep hb1);have HOL:=hid (fun k hk=>(HGO.out.lt k hk).2);have HZ1:=hid hb1.size;clear hg1 hb1 q0 q1 q2 q3 q4 q5 q6)
    | (at_builtin;refine wpList_pushF (K:=kInT) (x:=x) (cs:=[.int .u8 (x.kind:Int),.int .u8 (x.op:Int),.string ⟨x.dst.toArray⟩,.string ⟨x.nm.toArray⟩,.slice p1 x.args.length c1,.int .i64 x.pos.1,.int .i64 x.pos.2]) (te:=41) rfl _ _ 25 rfl Tryz.underlying25 _ 80 info_inT rfl HGK.out ⟨_,rfl,HG1.out.weaken fun k hk=>⟨⟨Nat.le_trans HBO.out.size hk.1.1,hk.1.2,fun e=>by have:=HOL.out k e;omega⟩,hk.2⟩⟩ rfl rfl (by have:=HCL.out;omega) (by have:=HCL.out;unfold maxLen;omega) HB1.out.size ?_;intro v5 w5 hg5 hgr5 hm5;have HG5:=hid hg5;have HB5:=hid (below_push HGK.out.ga HB1.out hgr5 HB1.out.size);clear hg5 hgr5 hm5))
   go_roundw
   case rel=>exact ⟨k+1,HLT.out,by rw [wrap_next HLT.out HS.len],by rw [HSN.out];exact HG5.out,HB5.out⟩
   case measure=>exact meas_next HLT.out HS.len
  ·obtain rfl:k=l.length:=by omega
   have HBR:=hid hbr;have HGA:=hid hga
   clear hlt hbr hga
   go_wp2_with fail
   go_ret
   have hga:=HGA.out
   have hT:=HTD.out
   rw [List.take_length] at hT
   subst hT
   exact ⟨_,rfl,hga,HBR.out⟩
theorem copyfu_any (x:Fu) (va vb:Value) (w:World) (hp:SlG kStr (·<w.heap.size) w va x.params) (hc:SlG kIn (·<w.heap.size) w vb x.code) (hl:x.params.length<=1000000000000/\x.code.length<=1000000000000/\∀ y ∈ x.code,y.args.length<=5864062014805) :
  Calls Tryz.prog 85 #[.agg #[.string ⟨x.nm.toArray⟩,va,vb,.int .i64 x.pos.1,.int .i64 x.pos.2]] w fun e w'=>∃ a b c d,e=.returned (.agg #[.string ⟨x.nm.toArray⟩,.slice a x.params.length b,.slice c x.code.length d,.int .i64 x.pos.1,.int .i64 x.pos.2])/\kFuT.E (fun k=>w.heap.size<=k/\k<w'.heap.size) w' [.string ⟨x.nm.toArray⟩,.slice a x.params.length b,.slice c x.code.length d,.int .i64 x.pos.1,.int .i64 x.pos.2] x/\Below w.heap.size w w':=by
 obtain ⟨pp,cp,rfl⟩:=hp.slc
 obtain ⟨pq,cq,rfl⟩:=hc.slc
 have HPA:=hid hp;have HCA:=hid hc;have HLN:=hid hl
 clear hp hc hl
 go_enter Tryz.func85,Tryz.ntmps85
 go_upto_region 1 with fail
 obtain ⟨w2,hw2⟩:∃ W,(w.alloc (.cells #[.string ⟨x.nm.toArray⟩,.slice pp x.params.length cp,.slice pq x.code.length cq,.int .i64 x.pos.1,.int .i64 x.pos.2] 74)).alloc (.cells #[.string ⟨#[]⟩,.slice none 0 0,.slice none 0 0,.int .i64 0,.int .i64 0] 74)=W:=⟨_,rfl⟩
 have HND:=hid (show BxL 74 w.heap.size [.string ⟨x.nm.toArray⟩,.slice pp x.params.length cp,.slice pq x.code.length cq,.int .i64 x.pos.1,.int .i64 x.pos.2] w2.drew from by rw [<- hw2];exact (BxL.new _ _ _).al _)
 have HYD:=hid (show BxL 74 (w.heap.size+1) [.string ⟨#[]⟩,.slice none 0 0,.slice none 0 0,.int .i64 0,.int .i64 0] w2.drew from by rw [<- hw2];have h9:=BxL.new 74 (w.alloc (.cells #[.string ⟨x.nm.toArray⟩,.slice pp x.params.length cp,.slice pq x.code.length cq,.int .i64 x.pos.1,.int .i64 x.pos.2] 74)) [.string ⟨#[]⟩,.slice none 0 0,.slice none 0 0,.int .i64 0,.int .i64 0];rw [sA] at h9;exact h9)
 have HBd:=hid (show Below w.heap.size w w2.drew from by rw [<- hw2];exact ((bA).alloc (by rw [sA];omega) _).trans (Below.refl _ _).drew)
 have HZD:=hid (show w2.drew.heap.size=w.heap.size+2 from by rw [<- hw2];show ((w.alloc _).alloc _).heap.size=_;rw [sA,sA])
 have HPD:=hid (HPA.below HBd.out);have HCD:=hid (HCA.below HBd.out)
 rw [hw2]
 clear hw2
 have hS:(fun W=>W.cell? ⟨w.heap.size,1,none⟩=some (.slice pp x.params.length cp)/\W.cell? ⟨w.heap.size,2,none⟩=some (.slice pq x.code.length cq)) w2.drew:=⟨HND.at 1 rfl,HND.at 2 rfl⟩
 have hFa:=fT
 refine rgN (fun W=>W.cell? ⟨w.heap.size,1,none⟩=some (.slice pp x.params.length cp)/\W.cell? ⟨w.heap.size,2,none⟩=some (.slice pq x.code.length cq)) 7 (by kernel_rfl) ?_
 simp only [zP,Nat.reduceAdd]
 refine wpHJ_pure (v:=?v0) 0 hFa rfl (by kernel_rfl) nE (Or.inl ⟨by rfl,?y0⟩) (.inr hS) ?r0
 case y0=>(intro w' _;go_simp;try rfl)
 simp only [aP]
 refine wpHJ_take (v:=?v1) 1 hFa rfl (by kernel_rfl) nE (Or.inl ⟨by rfl,?y1⟩) hS ?r1
 case y1=>(rintro w' ⟨s0,s1⟩;go_simp;try rfl)
 simp only [aP]
 refine wpHJ_pure (v:=?v2) 3 hFa rfl (by kernel_rfl) nE (Or.inl ⟨by rfl,?y2⟩) (.inr hS) ?r2
 case y2=>(intro w' _;go_simp;try rfl)
 simp only [aP]
 refine wpHJ_take (v:=?v3) 4 hFa rfl (by kernel_rfl) nE (Or.inl ⟨by rfl,?y3⟩) hS ?r3
 case y3=>(rintro w' ⟨s0,s1⟩;go_simp;try rfl)
 simp only [aP]
 refine oy 2 fun K hK=>?_
 go_simp
 (refine (callsIn_wide.2 (copystrs_any x.params _ _ HPD.out HLN.1)).mono ?_)
 rintro e wa ⟨u1,rfl,hg,hb⟩
 obtain ⟨q1,e1,rfl⟩:=hg.slc
 have HGU:=hid hg
 have HBA:=hid (HBd.trans (hb.mono HBd.size))
 have HNA:=hid (HND.bel hb)
 have HYA:=hid (HYD.bel hb)
 have HUC:=hid (HCD.below hb)
 have HZA:=hid hb.size
 clear hg hb
 refine hK _ _ (.inr (.inr ⟨HNA.at 1 rfl,HNA.at 2 rfl⟩)) ?_
 clear hK K
 refine wpHJ_pure (v:=?v4) 6 hFa rfl (by kernel_rfl) nE (Or.inl ⟨by rfl,?y4⟩) (.inr ⟨HNA.at 1 rfl,HNA.at 2 rfl⟩) ?r4
 case y4=>(intro w' _;go_simp;try rfl)
 simp only [aP]
 refine oy 5 fun K hK=>?_
 go_simp
 (refine (callsIn_wide.2 (copyinsT_any x.code _ _ HUC.out HLN.2.1 HLN.2.2)).mono ?_)
 rintro e wb ⟨u2,rfl,hg,hb⟩
 obtain ⟨q2,e2,rfl⟩:=hg.slc
 have HGC:=hid hg
 have HKU:=hid (HGU.keep hb)
 have HBB:=hid (HBA.trans (hb.mono HBA.size))
 have HNB:=hid (HNA.bel hb)
 have HYB:=hid (HYA.bel hb)
 have HZB:=hid hb.size
 clear hg hb
 have z1:wb.cell? ⟨w.heap.size,1,none⟩=some (.slice pp x.params.length cp):=HNB.at 1 rfl
 have z2:∀ v,(wb.setCell ⟨w.heap.size,1,none⟩ v).cell? ⟨w.heap.size,2,none⟩=some (.slice pq x.code.length cq):=fun v=>(HNB.set 1 v).at 2 rfl
 have z3:wb.frozen? ⟨w.heap.size,1,none⟩=false:=HNB.fr 1
 have z4:∀ v,(wb.setCell ⟨w.heap.size,1,none⟩ v).frozen? ⟨w.heap.size,2,none⟩=false:=fun v=>(HNB.set 1 v).fr 2
 refine hK _ _ (.inr (.inr ⟨HNB.at 1 rfl,HNB.at 2 rfl⟩)) ?_
 clear hK K
 refine oy 7 fun K hK=>?_
 go_simp
 refine hK _ _ (.inl rfl) ?_
 clear hK K
 refine wpHJ_pure (v:=?v5) 8 hFa rfl (by kernel_rfl) nE (Or.inl ⟨by rfl,?y5⟩) (.inl rfl) ?r5
 case y5=>(intro w' _;go_simp;try rfl)
 simp only [aP]
 refine oy 9 fun K hK=>?_
 go_simp
 refine hK _ _ (.inr (.inl rfl)) (dN ?_)
 clear hK K
 simp only [onlyN,Exit.then]
 clear hFa
 clear hS z1 z2 z3 z4
 obtain ⟨w8,hw8⟩:∃ W,(wb.setCell ⟨w.heap.size,1,none⟩ (.slice q1 x.params.length e1)).setCell ⟨w.heap.size,2,none⟩ (.slice q2 x.code.length e2)=W:=⟨_,rfl⟩
 have hx8:BxL 74 w.heap.size [.string ⟨x.nm.toArray⟩,.slice q1 x.params.length e1,.slice q2 x.code.length e2,.int .i64 x.pos.1,.int .i64 x.pos.2] w8:=by rw [<- hw8];exact (HNB.set 1 _).set 2 _
 have hk8:∀ j,j ≠ w.heap.size->w8.heap[j]?=wb.heap[j]?:=fun j h=>by rw [<- hw8,heap_ot h,heap_ot h]
 have hy8:BxL 74 (w.heap.size+1) [.string ⟨#[]⟩,.slice none 0 0,.slice none 0 0,.int .i64 0,.int .i64 0] w8:=HYB.keep (hk8 _ (by omega))
 have HB8:=hid (show Below w.heap.size w w8 from by rw [<- hw8];exact (HBB.setCell (p:=⟨w.heap.size,1,none⟩) lrf _).setCell (p:=⟨w.heap.size,2,none⟩) lrf _)
 have HS8:=hid (show w8.heap.size=wb.heap.size from by rw [<- hw8,World.size_setCell,World.size_setCell])
 have HK8:=hid hk8;have HY8:=hid hy8
 rw [hw8]
 clear hw8 hk8
 obtain ⟨x0,x1,x2,x3,x4⟩:=hx8.p5
 have y0:w8.cell? ⟨w.heap.size+1,0,none⟩=some (.string ⟨#[]⟩):=hy8.at 0 rfl
 have g0:w8.frozen? ⟨w.heap.size+1,0,none⟩=false:=hy8.fr 0
 have y1:w8.cell? ⟨w.heap.size+1,1,none⟩=some (.slice none 0 0):=hy8.at 1 rfl
 have g1:w8.frozen? ⟨w.heap.size+1,1,none⟩=false:=hy8.fr 1
 have y2:w8.cell? ⟨w.heap.size+1,2,none⟩=some (.slice none 0 0):=hy8.at 2 rfl
 have g2:w8.frozen? ⟨w.heap.size+1,2,none⟩=false:=hy8.fr 2
 have y3:w8.cell? ⟨w.heap.size+1,3,none⟩=some (.int .i64 0):=hy8.at 3 rfl
 have g3:w8.frozen? ⟨w.heap.size+1,3,none⟩=false:=hy8.fr 3
 have y4:w8.cell? ⟨w.heap.size+1,4,none⟩=some (.int .i64 0):=hy8.at 4 rfl
 have g4:w8.frozen? ⟨w.heap.size+1,4,none⟩=false:=hy8.fr 4
 clear hx8 hy8
 go_wp2_with fail
 clear x0 y0 g0 x1 y1 g1 x2 y2 g2 x3 y3 g3 x4 y4 g4
 obtain ⟨wq,hwq⟩:∃ W,((((w8.setCell ⟨w.heap.size+1,0,none⟩ (.string ⟨x.nm.toArray⟩)).setCell ⟨w.heap.size+1,1,none⟩ (.slice q1 x.params.length e1)).setCell ⟨w.heap.size+1,2,none⟩ (.slice q2 x.code.length e2)).setCell ⟨w.heap.size+1,3,none⟩ (.int .i64 x.pos.1)).setCell ⟨w.heap.size+1,4,none⟩ (.int .i64 x.pos.2)=W:=⟨_,rfl⟩
 rw [hwq]
 have hyq:BxL 74 (w.heap.size+1) [.string ⟨x.nm.toArray⟩,.slice q1 x.params.length e1,.slice q2 x.code.length e2,.int .i64 x.pos.1,.int .i64 x.pos.2] wq:=by rw [<- hwq];exact ((((HY8.set 0 _).set 1 _).set 2 _).set 3 _).set 4 _
 have hkq:∀ j,j ≠ w.heap.size->j ≠ w.heap.size+1->wq.heap[j]?=wb.heap[j]?:=fun j h1 h2=>by rw [<- hwq,heap_ot h2,heap_ot h2,heap_ot h2,heap_ot h2,heap_ot h2];exact HK8.out j h1
 have hsq:wq.heap.size=wb.heap.size:=by rw [<- hwq];simp only [World.size_setCell];exact HS8.out
 have hbq:Below w.heap.size w wq:=by
  rw [<- hwq]
  exact ((((HB8.setCell (p:=⟨w.heap.size+1,0,none⟩) (Nat.le_succ _) _).setCell (p:=⟨w.heap.size+1,1,none⟩) (Nat.le_succ _) _).setCell (p:=⟨w.heap.size+1,2,none⟩) (Nat.le_succ _) _).setCell (p:=⟨w.heap.size+1,3,none⟩) (Nat.le_succ _) _).setCell (p:=⟨w.heap.size+1,4,none⟩) (Nat.le_succ _) _
 have e0':wq.cell? ⟨w.heap.size+1,0,none⟩=some (.string ⟨x.nm.toArray⟩):=hyq.at 0 rfl
 have e1':wq.cell? ⟨w.heap.size+1,1,none⟩=some (.slice q1 x.params.length e1):=hyq.at 1 rfl
 have e2':wq.cell? ⟨w.heap.size+1,2,none⟩=some (.slice q2 x.code.length e2):=hyq.at 2 rfl
 have e3':wq.cell? ⟨w.heap.size+1,3,none⟩=some (.int .i64 x.pos.1):=hyq.at 3 rfl
 have e4':wq.cell? ⟨w.heap.size+1,4,none⟩=some (.int .i64 x.pos.2):=hyq.at 4 rfl
 clear hwq hyq
 refine bodyPost_ret (v := .agg #[.string ⟨x.nm.toArray⟩,.slice q1 x.params.length e1,.slice q2 x.code.length e2,.int .i64 x.pos.1,.int .i64 x.pos.2]) (by simp [results,Tryz.results85,go_sem,e0',e1',e2',e3',e4']) rfl ?_
 have h1:=HZD.out;have h2:=HZA.out;have h3:=HZB.out
 refine ⟨_,_,_,_,rfl,⟨_,_,rfl,?_,?_⟩,hbq⟩
 ·exact (HKU.slT (Nat.le_trans HLN.1 (by decide)) (fun h=>h)).keep fun k hk=>⟨⟨⟨by omega,by omega⟩,hk.2.keep (hkq k (by omega) (by omega))⟩,hkq k (by omega) (by omega)⟩
 ·exact HGC.owt.keep fun k hk=>⟨⟨by omega,by omega⟩,hkq k (by omega) (by omega)⟩
end Go.Proofs.YtoofbgoeipijcaaGreatDoor
