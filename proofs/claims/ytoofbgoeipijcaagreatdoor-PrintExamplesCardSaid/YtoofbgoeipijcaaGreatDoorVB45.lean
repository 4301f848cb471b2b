/-
 A part.
-/
import Derived.Test.YtoofbgoeipijcaaGreatDoorVSPcD
import Derived.Deep.Slices
import Derived.Test.YtoofbgoeipijcaaGreatDoorVSPpW
namespace Go.Proofs.YtoofbgoeipijcaaGreatDoor
set_option maxRecDepth 100000
set_option maxHeartbeats 8000000
set_option linter.all false
open Go.RowKit Go.Shelf
attribute [local go_sem] Oper.semAt_some
def LenF (x:Fu):Prop:=x.params.length<=1000000000000/\x.code.length<=1000000000000/\∀ y ∈ x.code,y.args.length<=5864062014805
structure LenP (p:Pg):Prop where
 chans:p.chans.length<=1000000000000
 arrays:p.arrays.length<=1000000000000
 funcs:p.funcs.length<=1000000000000
 each:∀ f ∈ p.funcs,LenF f
 main:p.main.length<=1000000000000/\∀ y ∈ p.main,y.args.length<=5864062014805
theorem info_fuT:(Tryz.prog.info? 74).map (fun i=>(i.zero,i.size,i.bytes))=some (some (.agg #[.string ⟨#[]⟩,.slice none 0 0,.slice none 0 0,.int .i64 0,.int .i64 0]),kFuT.n,80):=info_fuG
theorem copyfus_any (l:List Fu) (v:Value) (w:World) (h:SlG kFu (·<w.heap.size) w v l) (hl:l.length<=1000000000000) (ha:∀ x ∈ l,LenF x) :
  Calls Tryz.prog 43 #[v] w fun e w'=>∃ v',e=.returned v'/\GF kFuT w.heap.size 74 w' v' l/\Below w.heap.size w w':=by
 obtain ⟨p,c,rfl⟩:=h.slc
 have HS:=hid h;have HL:=hid hl;have HA:=hid ha
 clear h hl ha
 go_enter Tryz.func43,Tryz.ntmps43
 go_wp2
 go_loopw [3,4] (fun ov iv wr=>∃ k:Nat,k<=l.length/\iv=.int .i64 (k:Int)/\GF kFuT w.heap.size 74 wr ov (l.take k)/\Below w.heap.size w wr) (fun _ iv _=>l.length - (intOf iv).toNat)
 case atStart=>exact ⟨0,Nat.zero_le _,rfl,GF.nil _ _ _ _,Below.refl _ _⟩
 case round =>
  obtain ⟨k,hk,rfl,hga,hbr⟩:=hrel
  obtain ⟨T,hT⟩:∃ T,l.take k=T:=⟨_,rfl⟩
  rw [hT] at hga
  have HTD:=hid hT
  clear hT
  obtain ⟨po,co,rfl⟩:=hga.slc
  by_cases hlt:k<l.length
  ·obtain ⟨b,off,rfl,hR,hcells⟩:=fu_at HS.out (by omega:0<l.length)
   obtain ⟨pp,cp,pq,cq,hpar,hcode,q0,q1,q2,q3,q4⟩:=hcells k hlt
   have q0:=(hbr.cell (p:=⟨b,off+k*5,none⟩) hR).trans q0
   have q1:=(hbr.cell (p:=⟨b,off+k*5+1,none⟩) hR).trans q1
   have q2:=(hbr.cell (p:=⟨b,off+k*5+2,none⟩) hR).trans q2
   have q3:=(hbr.cell (p:=⟨b,off+k*5+3,none⟩) hR).trans q3
   have q4:=(hbr.cell (p:=⟨b,off+k*5+4,none⟩) hR).trans q4
   have HPA:=hid (hpar.below hbr);have HCO:=hid (hcode.below hbr)
   have HSN:=hid (show l.take (k+1)=T++[l[k]] from by rw [List.take_succ_eq_append_getElem hlt,HTD.out])
   have HCL:=hid (show T.length+1<=1000000000000 from by rw [<- HTD.out,List.length_take];have:=HL.out;omega)
   have HAL:=hid (HA.out l[k] (List.getElem_mem hlt))
   have HLT:=hid hlt;have HBO:=hid hbr;have HGO:=hid hga
   clear hcells hR hbr hga HTD hpar hcode
   generalize l[k]=x at *
   clear hlt
   go_wp2_with (first
    | (go_at_call 85;(refine (copyfu_any x _ _ _ HPA.out HCO.out HAL.out).mono ?_);rintro e w1 ⟨ua,ub,uc,ud,rfl,hE1,hb1⟩;have HE1:=hid hE1;have HB1:=hid (HBO.out.trans (hb1.mono HBO.out.size));have HGK:=hid (HGO.out.keep hb1);have HOL:=hid (fun k hk=>(HGO.out.lt k hk).2);have HZ1:=hid hb1.size;clear hE1 hb1 q0 q1 q2 q3 q4)
    | (at_builtin;refine wpList_pushF (K:=kFuT) (x:=x) (cs:=[.string ⟨x.nm.toArray⟩,.slice ua x.params.length ub,.slice uc x.code.length ud,.int .i64 x.pos.1,.int .i64 x.pos.2]) (te:=74) rfl _ _ 24 rfl Tryz.underlying24 _ 80 info_fuT rfl HGK.out (kFuT.keep HE1.out fun k hk=>⟨⟨Nat.le_trans HBO.out.size hk.1,hk.2,fun e=>by have:=HOL.out k e;omega⟩,rfl⟩) rfl rfl (by have:=HCL.out;omega) (by have:=HCL.out;unfold maxLen;omega) HB1.out.size ?_;intro v5 w5 hg5 hgr5 hm5;have HG5:=hid hg5;have HB5:=hid (below_push HGK.out.ga HB1.out hgr5 HB1.out.size);clear hg5 hgr5 hm5))
   go_roundw
   case rel=>exact ⟨k+1,HLT.out,by rw [wrap_next HLT.out HS.len],by rw [HSN.out];exact HG5.out,HB5.out⟩
   case measure=>exact meas_next HLT.out HS.len
  ·obtain rfl:k=l.length:=by omega
   have HBR:=hid hbr;have HGA:=hid hga
   clear hlt hbr hga
   go_wp2_with fail
   go_ret
   have hga:=HGA.out
   have hT:=HTD.out
   rw [List.take_length] at hT
   subst hT
   exact ⟨_,rfl,hga,HBR.out⟩
structure PgT (B:Nat) (w:World) (a b c d:Value) (p:Pg):Prop where
 chans:SlG kStr (fun k=>(B<=k/\k<w.heap.size)/\TB 9 w k) w a p.chans
 arrays:SlG kAr (fun k=>(B<=k/\k<w.heap.size)/\TB 87 w k) w b p.arrays
 funcs:OwT kFuT (fun k=>B<=k/\k<w.heap.size) 74 w c p.funcs
 main:OwT kInT (fun k=>B<=k/\k<w.heap.size) 41 w d p.main
theorem GF.owF {B e:Nat} {w:World} {v:Value} {l:List Fu} (h:GF kFuT B e w v l):OwT kFuT (fun k=>B<=k/\k<w.heap.size) e w v l:=by
 obtain ⟨css,h1,h2⟩:=h.row
 refine ⟨css,h1.weaken fun k hk=>⟨hk.1,hk.2.1⟩,⟨h2.1,?_⟩,fun k hk=>h2.lt k hk⟩
 rcases h2.2 with h | ⟨g,cap,cur,h3,hb,h4⟩
 ·exact .inl h
 ·exact .inr ⟨g,cap,cur,h3,Nat.zero_le _,h4⟩
theorem copypg_any (p:Pg) (a b c d:Value) (w:World) (hp:PgV (·<w.heap.size) w a b c d p) (hl:LenP p) :
  Calls Tryz.prog 13 #[.agg #[.int .i64 p.width,a,b,c,d]] w fun e w'=>∃ qa xa qb xb qc xc qd xd,e=.returned (.agg #[.int .i64 p.width,.slice qa p.chans.length xa,.slice qb p.arrays.length xb,.slice qc p.funcs.length xc,.slice qd p.main.length xd])/\PgT (w.heap.size+2) w' (.slice qa p.chans.length xa) (.slice qb p.arrays.length xb) (.slice qc p.funcs.length xc) (.slice qd p.main.length xd) p/\Below w.heap.size w w':=by
 obtain ⟨pa,ca,hva⟩:=hp.1.slc
 obtain ⟨pb,cb,hvb⟩:=hp.2.1.slc
 obtain ⟨pc,cc,hvc⟩:=hp.2.2.1.slc
 obtain ⟨pd,cd,hvd⟩:=hp.2.2.2.slc
 subst hva hvb hvc hvd
 have HP:=hid hp;have HL:=hid hl
 clear hp hl
 go_enter Tryz.func13,Tryz.ntmps13
 go_upto_region 1 with fail
 obtain ⟨w2,hw2⟩:∃ W,(w.alloc (.cells #[.int .i64 p.width,.slice pa p.chans.length ca,.slice pb p.arrays.length cb,.slice pc p.funcs.length cc,.slice pd p.main.length cd] 27)).alloc (.cells #[.int .i64 0,.slice none 0 0,.slice none 0 0,.slice none 0 0,.slice none 0 0] 27)=W:=⟨_,rfl⟩
 have HXD:=hid (show BxL 27 w.heap.size [.int .i64 p.width,.slice pa p.chans.length ca,.slice pb p.arrays.length cb,.slice pc p.funcs.length cc,.slice pd p.main.length cd] w2.drew from by rw [<- hw2];exact (BxL.new _ _ _).al _)
 have HYD:=hid (show BxL 27 (w.heap.size+1) [.int .i64 0,.slice none 0 0,.slice none 0 0,.slice none 0 0,.slice none 0 0] w2.drew from by rw [<- hw2];have h9:=BxL.new 27 (w.alloc (.cells #[.int .i64 p.width,.slice pa p.chans.length ca,.slice pb p.arrays.length cb,.slice pc p.funcs.length cc,.slice pd p.main.length cd] 27)) [.int .i64 0,.slice none 0 0,.slice none 0 0,.slice none 0 0,.slice none 0 0];rw [sA] at h9;exact h9)
 have HBD:=hid (show Below w.heap.size w w2.drew from by rw [<- hw2];exact ((bA).alloc (by rw [sA];omega) _).trans (Below.refl _ _).drew)
 have HZD:=hid (show w2.drew.heap.size=w.heap.size+2 from by rw [<- hw2];show ((w.alloc _).alloc _).heap.size=_;rw [sA,sA])
 have n0:w2.drew.cell? ⟨w.heap.size,0,none⟩=some (.int .i64 p.width):=HXD.at 0 rfl
 clear n0
 rw [hw2]
 clear hw2
 have hS:(fun W=>W.cell? ⟨w.heap.size,1,none⟩=some (.slice pa p.chans.length ca)/\W.cell? ⟨w.heap.size,2,none⟩=some (.slice pb p.arrays.length cb)/\W.cell? ⟨w.heap.size,3,none⟩=some (.slice pc p.funcs.length cc)/\W.cell? ⟨w.heap.size,4,none⟩=some (.slice pd p.main.length cd)) w2.drew:=⟨HXD.at 1 rfl,HXD.at 2 rfl,HXD.at 3 rfl,HXD.at 4 rfl⟩
 have hFa:=fT
 refine rgN (fun W=>W.cell? ⟨w.heap.size,1,none⟩=some (.slice pa p.chans.length ca)/\W.cell? ⟨w.heap.size,2,none⟩=some (.slice pb p.arrays.length cb)/\W.cell? ⟨w.heap.size,3,none⟩=some (.slice pc p.funcs.length cc)/\W.cell? ⟨w.heap.size,4,none⟩=some (.slice pd p.main.length cd)) 13 (by kernel_rfl) ?_
 simp only [zP,Nat.reduceAdd]
 refine wpHJ_pure (v:=?v0) 0 hFa rfl (by kernel_rfl) nE (Or.inl ⟨by rfl,?y0⟩) (.inr hS) ?r0
 case y0=>(intro w' _;go_simp;try rfl)
 simp only [aP]
 refine wpHJ_take (v:=?v1) 1 hFa rfl (by kernel_rfl) nE (Or.inl ⟨by rfl,?y1⟩) hS ?r1
 case y1=>(rintro w' ⟨s0,s1,s2,s3⟩;go_simp;try rfl)
 simp only [aP]
 refine wpHJ_pure (v:=?v7) 3 hFa rfl (by kernel_rfl) nE (Or.inl ⟨by rfl,?y7⟩) (.inr hS) ?r7
 case y7=>(intro w' _;go_simp;try rfl)
 simp only [aP]
 refine wpHJ_take (v:=?v8) 4 hFa rfl (by kernel_rfl) nE (Or.inl ⟨by rfl,?y8⟩) hS ?r8
 case y8=>(rintro w' ⟨s0,s1,s2,s3⟩;go_simp;try rfl)
 simp only [aP]
 refine wpHJ_pure (v:=?v9) 6 hFa rfl (by kernel_rfl) nE (Or.inl ⟨by rfl,?y9⟩) (.inr hS) ?r9
 case y9=>(intro w' _;go_simp;try rfl)
 simp only [aP]
 refine wpHJ_take (v:=?va) 7 hFa rfl (by kernel_rfl) nE (Or.inl ⟨by rfl,?ya⟩) hS ?ra
 case ya=>(rintro w' ⟨s0,s1,s2,s3⟩;go_simp;try rfl)
 simp only [aP]
 refine wpHJ_pure (v:=?vb) 9 hFa rfl (by kernel_rfl) nE (Or.inl ⟨by rfl,?yb⟩) (.inr hS) ?rb
 case yb=>(intro w' _;go_simp;try rfl)
 simp only [aP]
 refine wpHJ_take (v:=?v2) 10 hFa rfl (by kernel_rfl) nE (Or.inl ⟨by rfl,?y2⟩) hS ?r2
 case y2=>(rintro w' ⟨s0,s1,s2,s3⟩;go_simp;try rfl)
 simp only [aP]
 refine oy 2 fun K hK=>?_
 go_simp
 (refine (callsIn_wide.2 (copystrs_any p.chans _ _ (HP.1.below HBD.out) HL.chans)).mono ?_)
 rintro e wa ⟨u1,rfl,hg,hb⟩
 obtain ⟨qa,xa,rfl⟩:=hg.slc
 have HG1:=hid hg
 have HB1:=hid (HBD.trans (hb.mono HBD.size))
 have HX1:=hid (HXD.bel hb)
 have HY1:=hid (HYD.bel hb)
 have HZ1:=hid hb.size
 clear hg hb
 refine hK _ _ (.inr (.inr ⟨HX1.at 1 rfl,HX1.at 2 rfl,HX1.at 3 rfl,HX1.at 4 rfl⟩)) ?_
 clear hK K
 refine wpHJ_pure (v:=?v3) 12 hFa rfl (by kernel_rfl) nE (Or.inl ⟨by rfl,?y3⟩) (.inr ⟨HX1.at 1 rfl,HX1.at 2 rfl,HX1.at 3 rfl,HX1.at 4 rfl⟩) ?r3
 case y3=>(intro w' _;go_simp;try rfl)
 simp only [aP]
 refine oy 5 fun K hK=>?_
 go_simp
 (refine (callsIn_wide.2 (copyarrs_any p.arrays _ _ (HP.2.1.below HB1.out) HL.arrays)).mono ?_)
 rintro e wb ⟨u2,rfl,hg,hb⟩
 obtain ⟨qb,xb,rfl⟩:=hg.slc
 have HG2:=hid hg
 have HB2:=hid (HB1.trans (hb.mono HB1.size))
 have HX2:=hid (HX1.bel hb)
 have HY2:=hid (HY1.bel hb)
 have HZ2:=hid hb.size
 have HG12:=hid (HG1.keep hb)
 clear hg hb
 refine hK _ _ (.inr (.inr ⟨HX2.at 1 rfl,HX2.at 2 rfl,HX2.at 3 rfl,HX2.at 4 rfl⟩)) ?_
 clear hK K
 refine oy 8 fun K hK=>?_
 go_simp
 (refine (callsIn_wide.2 (copyfus_any p.funcs _ _ (HP.2.2.1.below HB2.out) HL.funcs HL.each)).mono ?_)
 rintro e wc ⟨u3,rfl,hg,hb⟩
 obtain ⟨qc,xc,rfl⟩:=hg.slc
 have HG3:=hid hg
 have HB3:=hid (HB2.trans (hb.mono HB2.size))
 have HX3:=hid (HX2.bel hb)
 have HY3:=hid (HY2.bel hb)
 have HZ3:=hid hb.size
 have HG13:=hid (HG12.keep hb)
 have HG23:=hid (HG2.keep hb)
 clear hg hb
 refine hK _ _ (.inr (.inr ⟨HX3.at 1 rfl,HX3.at 2 rfl,HX3.at 3 rfl,HX3.at 4 rfl⟩)) ?_
 clear hK K
 refine oy 11 fun K hK=>?_
 go_simp
 (refine (callsIn_wide.2 (copyinsT_any p.main _ _ (HP.2.2.2.below HB3.out) HL.main.1 HL.main.2)).mono ?_)
 rintro e wd ⟨u4,rfl,hg,hb⟩
 obtain ⟨qd,xd,rfl⟩:=hg.slc
 have HG4:=hid hg
 have HB4:=hid (HB3.trans (hb.mono HB3.size))
 have HX4:=hid (HX3.bel hb)
 have HY4:=hid (HY3.bel hb)
 have HZ4:=hid hb.size
 have HG14:=hid (HG13.keep hb)
 have HG24:=hid (HG23.keep hb)
 have HG34:=hid (HG3.keep hb)
 clear hg hb
 have c1:(wd).cell? ⟨w.heap.size,1,none⟩=some (.slice pa p.chans.length ca):=HX4.at 1 rfl
 have f1:(wd).frozen? ⟨w.heap.size,1,none⟩=false:=HX4.fr 1
 have c2:∀ v1,(wd.setCell ⟨w.heap.size,1,none⟩ v1).cell? ⟨w.heap.size,2,none⟩=some (.slice pb p.arrays.length cb):=fun v1=>(HX4.set 1 _).at 2 rfl
 have f2:∀ v1,(wd.setCell ⟨w.heap.size,1,none⟩ v1).frozen? ⟨w.heap.size,2,none⟩=false:=fun v1=>(HX4.set 1 _).fr 2
 have c3:∀ v1 v2,((wd.setCell ⟨w.heap.size,1,none⟩ v1).setCell ⟨w.heap.size,2,none⟩ v2).cell? ⟨w.heap.size,3,none⟩=some (.slice pc p.funcs.length cc):=fun v1 v2=>((HX4.set 1 _).set 2 _).at 3 rfl
 have f3:∀ v1 v2,((wd.setCell ⟨w.heap.size,1,none⟩ v1).setCell ⟨w.heap.size,2,none⟩ v2).frozen? ⟨w.heap.size,3,none⟩=false:=fun v1 v2=>((HX4.set 1 _).set 2 _).fr 3
 have c4:∀ v1 v2 v3,(((wd.setCell ⟨w.heap.size,1,none⟩ v1).setCell ⟨w.heap.size,2,none⟩ v2).setCell ⟨w.heap.size,3,none⟩ v3).cell? ⟨w.heap.size,4,none⟩=some (.slice pd p.main.length cd):=fun v1 v2 v3=>(((HX4.set 1 _).set 2 _).set 3 _).at 4 rfl
 have f4:∀ v1 v2 v3,(((wd.setCell ⟨w.heap.size,1,none⟩ v1).setCell ⟨w.heap.size,2,none⟩ v2).setCell ⟨w.heap.size,3,none⟩ v3).frozen? ⟨w.heap.size,4,none⟩=false:=fun v1 v2 v3=>(((HX4.set 1 _).set 2 _).set 3 _).fr 4
 refine hK _ _ (.inr (.inr ⟨HX4.at 1 rfl,HX4.at 2 rfl,HX4.at 3 rfl,HX4.at 4 rfl⟩)) ?_
 clear hK K
 refine oy 13 fun K hK=>?_
 go_simp
 refine hK _ _ (.inl rfl) ?_
 clear hK K
 refine wpHJ_pure (v:=?v4) 14 hFa rfl (by kernel_rfl) nE (Or.inl ⟨by rfl,?y4⟩) (.inl rfl) ?r4
 case y4=>(intro w' _;go_simp;try rfl)
 simp only [aP]
 refine oy 15 fun K hK=>?_
 go_simp
 refine hK _ _ (.inr (.inl rfl)) ?_
 clear hK K
 refine wpHJ_pure (v:=?v5) 16 hFa rfl (by kernel_rfl) nE (Or.inl ⟨by rfl,?y5⟩) (.inl rfl) ?r5
 case y5=>(intro w' _;go_simp;try rfl)
 simp only [aP]
 refine oy 17 fun K hK=>?_
 go_simp
 refine hK _ _ (.inr (.inl rfl)) ?_
 clear hK K
 refine wpHJ_pure (v:=?v6) 18 hFa rfl (by kernel_rfl) nE (Or.inl ⟨by rfl,?y6⟩) (.inl rfl) ?r6
 case y6=>(intro w' _;go_simp;try rfl)
 simp only [aP]
 refine oy 19 fun K hK=>?_
 go_simp
 refine hK _ _ (.inr (.inl rfl)) (dN ?_)
 clear hK K
 simp only [onlyN,Exit.then]
 clear hFa
 clear hS c1 f1 c2 f2 c3 f3 c4 f4
 obtain ⟨w8,hw8⟩:∃ W,(((wd.setCell ⟨w.heap.size,1,none⟩ (.slice qa p.chans.length xa)).setCell ⟨w.heap.size,2,none⟩ (.slice qb p.arrays.length xb)).setCell ⟨w.heap.size,3,none⟩ (.slice qc p.funcs.length xc)).setCell ⟨w.heap.size,4,none⟩ (.slice qd p.main.length xd)=W:=⟨_,rfl⟩
 have hx8:BxL 27 w.heap.size [.int .i64 p.width,.slice qa p.chans.length xa,.slice qb p.arrays.length xb,.slice qc p.funcs.length xc,.slice qd p.main.length xd] w8:=by rw [<- hw8];exact (((HX4.set 1 _).set 2 _).set 3 _).set 4 _
 have hk8:∀ j,j ≠ w.heap.size->w8.heap[j]?=wd.heap[j]?:=fun j h=>by rw [<- hw8,heap_ot h,heap_ot h,heap_ot h,heap_ot h]
 have hy8:BxL 27 (w.heap.size+1) [.int .i64 0,.slice none 0 0,.slice none 0 0,.slice none 0 0,.slice none 0 0] w8:=HY4.keep (hk8 _ (by omega))
 have HB8:=hid (show Below w.heap.size w w8 from by rw [<- hw8];exact (((HB4.setCell (p:=⟨w.heap.size,1,none⟩) lrf _).setCell (p:=⟨w.heap.size,2,none⟩) lrf _).setCell (p:=⟨w.heap.size,3,none⟩) lrf _).setCell (p:=⟨w.heap.size,4,none⟩) lrf _)
 have HS8:=hid (show w8.heap.size=wd.heap.size from by rw [<- hw8];simp only [World.size_setCell])
 have HK8:=hid hk8;have HY8:=hid hy8
 rw [hw8]
 clear hw8 hk8
 obtain ⟨x0,x1,x2,x3,x4⟩:=hx8.p5
 have y0:w8.cell? ⟨w.heap.size+1,0,none⟩=some (.int .i64 0):=hy8.at 0 rfl
 have g0:w8.frozen? ⟨w.heap.size+1,0,none⟩=false:=hy8.fr 0
 have y1:w8.cell? ⟨w.heap.size+1,1,none⟩=some (.slice none 0 0):=hy8.at 1 rfl
 have g1:w8.frozen? ⟨w.heap.size+1,1,none⟩=false:=hy8.fr 1
 have y2:w8.cell? ⟨w.heap.size+1,2,none⟩=some (.slice none 0 0):=hy8.at 2 rfl
 have g2:w8.frozen? ⟨w.heap.size+1,2,none⟩=false:=hy8.fr 2
 have y3:w8.cell? ⟨w.heap.size+1,3,none⟩=some (.slice none 0 0):=hy8.at 3 rfl
 have g3:w8.frozen? ⟨w.heap.size+1,3,none⟩=false:=hy8.fr 3
 have y4:w8.cell? ⟨w.heap.size+1,4,none⟩=some (.slice none 0 0):=hy8.at 4 rfl
 have g4:w8.frozen? ⟨w.heap.size+1,4,none⟩=false:=hy8.fr 4
 clear hx8 hy8
 go_wp2_with fail
 clear x0 y0 g0 x1 y1 g1 x2 y2 g2 x3 y3 g3 x4 y4 g4
 obtain ⟨wq,hwq⟩:∃ W,((((w8.setCell ⟨w.heap.size+1,0,none⟩ (.int .i64 p.width)).setCell ⟨w.heap.size+1,1,none⟩ (.slice qa p.chans.length xa)).setCell ⟨w.heap.size+1,2,none⟩ (.slice qb p.arrays.length xb)).setCell ⟨w.heap.size+1,3,none⟩ (.slice qc p.funcs.length xc)).setCell ⟨w.heap.size+1,4,none⟩ (.slice qd p.main.length xd)=W:=⟨_,rfl⟩
 rw [hwq]
 have hyq:BxL 27 (w.heap.size+1) [.int .i64 p.width,.slice qa p.chans.length xa,.slice qb p.arrays.length xb,.slice qc p.funcs.length xc,.slice qd p.main.length xd] wq:=by rw [<- hwq];exact ((((HY8.set 0 _).set 1 _).set 2 _).set 3 _).set 4 _
 have hkq:∀ j,j ≠ w.heap.size->j ≠ w.heap.size+1->wq.heap[j]?=wd.heap[j]?:=fun j h1 h2=>by rw [<- hwq,heap_ot h2,heap_ot h2,heap_ot h2,heap_ot h2,heap_ot h2];exact HK8.out j h1
 have hsq:wq.heap.size=wd.heap.size:=by rw [<- hwq];simp only [World.size_setCell];exact HS8.out
 have hbq:Below w.heap.size w wq:=by
  rw [<- hwq]
  exact ((((HB8.setCell (p:=⟨w.heap.size+1,0,none⟩) (Nat.le_succ _) _).setCell (p:=⟨w.heap.size+1,1,none⟩) (Nat.le_succ _) _).setCell (p:=⟨w.heap.size+1,2,none⟩) (Nat.le_succ _) _).setCell (p:=⟨w.heap.size+1,3,none⟩) (Nat.le_succ _) _).setCell (p:=⟨w.heap.size+1,4,none⟩) (Nat.le_succ _) _
 have e0':wq.cell? ⟨w.heap.size+1,0,none⟩=some (.int .i64 p.width):=hyq.at 0 rfl
 have e1':wq.cell? ⟨w.heap.size+1,1,none⟩=some (.slice qa p.chans.length xa):=hyq.at 1 rfl
 have e2':wq.cell? ⟨w.heap.size+1,2,none⟩=some (.slice qb p.arrays.length xb):=hyq.at 2 rfl
 have e3':wq.cell? ⟨w.heap.size+1,3,none⟩=some (.slice qc p.funcs.length xc):=hyq.at 3 rfl
 have e4':wq.cell? ⟨w.heap.size+1,4,none⟩=some (.slice qd p.main.length xd):=hyq.at 4 rfl
 clear hwq hyq
 refine bodyPost_ret (v := .agg #[.int .i64 p.width,.slice qa p.chans.length xa,.slice qb p.arrays.length xb,.slice qc p.funcs.length xc,.slice qd p.main.length xd]) (by simp [results,Tryz.results13,go_sem,e0',e1',e2',e3',e4']) rfl ?_
 have h0:=HZD.out;have h1:=HZ1.out;have h2:=HZ2.out;have h3:=HZ3.out;have h4:=HZ4.out
 have hm:∀ k,w.heap.size+2<=k->wq.heap[k]?=wd.heap[k]?:=fun k hk=>hkq k (by omega) (by omega)
 refine ⟨_,_,_,_,_,_,_,_,rfl,⟨?_,?_,?_,?_⟩,hbq⟩
 ·exact (HG14.slT (Nat.le_trans HL.chans (by decide)) (fun h=>h)).keep fun k hk=>⟨⟨⟨by omega,by omega⟩,hk.2.keep (hm k (by omega))⟩,hm k (by omega)⟩
 ·exact (HG24.slT (Nat.le_trans HL.arrays (by decide)) (fun h=>h)).keep fun k hk=>⟨⟨⟨by omega,by omega⟩,hk.2.keep (hm k (by omega))⟩,hm k (by omega)⟩
 ·exact HG34.owF.keep fun k hk=>⟨⟨by omega,by omega⟩,hm k (by omega)⟩
 ·exact HG4.owt.keep fun k hk=>⟨⟨by omega,by omega⟩,hm k (by omega)⟩
theorem TB.poke {t:TypeId} {w:World} {k g o:Nat} {u:Value} (h:TB t w k):TB t (w.setCell ⟨g,o,none⟩ u) k:=by
 obtain ⟨cur,fz,h⟩:=h
 by_cases hk:k=g
 ·subst hk
  exact ⟨cur.setIfInBounds o u,fz,by simp only [World.setCell,Array.getElem?_modify];rw [h];simp⟩
 ·exact ⟨cur,fz,by rw [heap_ot hk];exact h⟩
theorem TB.uni {s t:TypeId} {w:World} {k:Nat} (h:TB s w k) (h':TB t w k):s=t:=by
 obtain ⟨c,f,h⟩:=h
 obtain ⟨c',f',h'⟩:=h'
 rw [h] at h'
 cases h';rfl
theorem Each.mapf {α β:Type} {K:EK α} {R R':Nat->Prop} {w w':World} (f:α->β) {css css':List (List Value)} {l:List α} (h:Each K R w css l) (hl:css'.length=css.length)
  (hh:∀ i (h:i<l.length) (h1:i<css.length) (h2:i<css'.length),K.E R w css[i] l[i]->∃ x',K.E R' w' css'[i] x'/\f x'=f l[i]):∃ l',Each K R' w' css' l'/\l'.map f=l.map f:=by
 have hx:∀ i:Fin l.length,∃ x',K.E R' w' (css'[i.1]'(by rw [hl,h.1];exact i.2)) x'/\f x'=f l[i.1]:=fun i=>hh i.1 i.2 (by rw [h.1];exact i.2) _ (h.2 i.1 i.2 _)
 refine ⟨List.ofFn fun i=>(hx i).choose,⟨by rw [List.length_ofFn,hl,h.1],fun i hi hi'=>?_⟩,?_⟩
 ·rw [List.getElem_ofFn]
  exact (hx ⟨i,by simpa using hi⟩).choose_spec.1
 ·apply List.ext_getElem
  ·simp
  ·intro i h1 h2
   rw [List.getElem_map,List.getElem_map,List.getElem_ofFn]
   exact (hx ⟨i,by simpa using h1⟩).choose_spec.2
theorem OwT.poke {α β:Type} {K:EK α} {R:Nat->Prop} {e:TypeId} {w:World} {v:Value} {l:List α} (f:α->β) (h:OwT K R e w v l) (g o:Nat) (u:Value)
  (h0:∀ cs x,K.E R w cs x->∃ x',K.E R (w.setCell ⟨g,o,none⟩ u) cs x'/\f x'=f x)
  (h1:TB e w g->∀ cs x,K.E R w cs x->∃ x',K.E R (w.setCell ⟨g,o,none⟩ u) (cs.set (o % K.n) u) x'/\f x'=f x) :
  ∃ l',OwT K R e (w.setCell ⟨g,o,none⟩ u) v l'/\l'.map f=l.map f:=by
 obtain ⟨css,hE,⟨hlen,hrow⟩,hR⟩:=h
 have hE0:∃ l',Each K R (w.setCell ⟨g,o,none⟩ u) css l'/\l'.map f=l.map f:=hE.mapf f rfl fun i _ _ _ hx=>h0 _ _ hx
 have hll:∀ {l':List α},l'.map f=l.map f->l'.length=l.length:=fun b=>by have:=congrArg List.length b;simpa using this
 rcases hrow with ⟨rfl,hn⟩ | ⟨g2,cap,cur,rfl,hb,hg,h2,h3,h4,h5⟩
 ·obtain ⟨l',a,b⟩:=hE0
  exact ⟨l',⟨css,a,⟨by rw [hll b];exact hlen,.inl ⟨rfl,by rw [hll b];exact hn⟩⟩,hR⟩,b⟩
 ·by_cases hgg:g2=g
  ·subst hgg
   by_cases hlt:o / K.n<css.length
   ·have hmod:=Nat.mod_lt o K.pos
    have hdm:o / K.n*K.n+o % K.n=o:=by rw [Nat.mul_comm];exact Nat.div_add_mod o K.n
    obtain ⟨l',a,b⟩:=hE.mapf (R':=R) (w':=w.setCell ⟨g2,o,none⟩ u) (css':=css.set (o / K.n) ((css[o / K.n]).set (o % K.n) u)) f (by simp) fun i hi h1' h2' hx=>by
     by_cases he:o / K.n=i
     ·subst he;rw [List.getElem_set_self];exact h1 ⟨cur,_,hg⟩ _ _ hx
     ·rw [List.getElem_set_ne he];exact h0 _ _ hx
    have hl:=hll b
    refine ⟨l',⟨_,a,?_,hR⟩,b⟩
    rw [LenN.set hE.lens _ _ hlt hmod,hdm]
    refine ⟨by rw [List.length_set,hl];exact hlen,.inr ⟨g2,cap,cur.setIfInBounds o u,by rw [hl],hb,heap_setCell_same _ _ _ _ _ _ hg,by rw [hl];exact h2,h3,by rw [Array.size_setIfInBounds];exact h4,?_⟩⟩
    rw [hl,Array.toList_setIfInBounds,List.take_set,h5]
   ·obtain ⟨l',a,b⟩:=hE0
    have hl:=hll b
    refine ⟨l',⟨_,a,⟨by rw [hl];exact hlen,.inr ⟨g2,cap,cur.setIfInBounds o u,by rw [hl],hb,heap_setCell_same _ _ _ _ _ _ hg,by rw [hl];exact h2,h3,by rw [Array.size_setIfInBounds];exact h4,?_⟩⟩,hR⟩,b⟩
    have hle:l.length*K.n<=o:=(Nat.le_div_iff_mul_le K.pos).1 (by rw [<- hE.1];omega)
    rw [hl,Array.toList_setIfInBounds,List.take_set,h5,List.set_eq_of_length_le (by rw [hlen];exact hle)]
  ·obtain ⟨l',a,b⟩:=hE0
   have hl:=hll b
   exact ⟨l',⟨_,a,⟨by rw [hl];exact hlen,.inr ⟨g2,cap,cur,by rw [hl],hb,by rw [heap_ot hgg];exact hg,by rw [hl];exact h2,h3,h4,by rw [hl];exact h5⟩⟩,hR⟩,b⟩
def PosC (w:World) (g o:Nat):Prop:=(TB 41 w g/\(o % 7=5\/o % 7=6))\/(TB 74 w g/\(o % 5=3\/o % 5=4))
theorem PosC.ne {w:World} {g o k:Nat} {t:TypeId} (h:PosC w g o) (ht:TB t w k) (h1:t ≠ 41) (h2:t ≠ 74):k ≠ g:=by
 rintro rfl
 rcases h with ⟨h,_⟩ | ⟨h,_⟩
 ·exact h1 (ht.uni h)
 ·exact h2 (ht.uni h)
theorem PosC.sl {α:Type} {K:EK α} {R:Nat->Prop} {w:World} {g o:Nat} {t:TypeId} {u v:Value} {l:List α} (hp:PosC w g o) (h:SlG K (fun k=>R k/\TB t w k) w v l) (h1:t ≠ 41) (h2:t ≠ 74):SlG K (fun k=>R k/\TB t (w.setCell ⟨g,o,none⟩ u) k) (w.setCell ⟨g,o,none⟩ u) v l :=
 h.keep fun k hk=>⟨⟨hk.1,hk.2.poke⟩,heap_ot (hp.ne hk.2 h1 h2) _⟩
theorem in_poke {R:Nat->Prop} {w:World} {v:Value} {l:List In} {g o:Nat} (h:OwT kInT R 41 w v l) (hp:PosC w g o) (n:Int) :
  ∃ l',OwT kInT R 41 (w.setCell ⟨g,o,none⟩ (.int .i64 n)) v l'/\l'.map bareI=l.map bareI:=by
 refine h.poke bareI g o _ ?_ ?_
 ·rintro cs x ⟨av,rfl,hs⟩
  exact ⟨x,⟨av,rfl,hp.sl hs (by decide) (by decide)⟩,rfl⟩
 ·rintro ht cs x ⟨av,rfl,hs⟩
  have hs':=hp.sl (u := .int .i64 n) hs (by decide) (by decide)
  rcases hp with ⟨_,ho | ho⟩ | ⟨hf,_⟩
  ·rw [show o % kInT.n=5 from ho]
   exact ⟨{ x with pos:=(n,x.pos.2) },⟨av,rfl,hs'⟩,rfl⟩
  ·rw [show o % kInT.n=6 from ho]
   exact ⟨{ x with pos:=(x.pos.1,n) },⟨av,rfl,hs'⟩,rfl⟩
  ·exact absurd (ht.uni hf) (by decide)
theorem fu_poke {R:Nat->Prop} {w:World} {v:Value} {l:List Fu} {g o:Nat} (h:OwT kFuT R 74 w v l) (hp:PosC w g o) (n:Int) :
  ∃ l',OwT kFuT R 74 (w.setCell ⟨g,o,none⟩ (.int .i64 n)) v l'/\l'.map bareF=l.map bareF:=by
 refine h.poke bareF g o _ ?_ ?_
 ·rintro cs x ⟨pv,cv,rfl,hq,hc⟩
  obtain ⟨lc,hc',hb⟩:=in_poke hc hp n
  exact ⟨{ x with code:=lc },⟨pv,cv,rfl,hp.sl hq (by decide) (by decide),hc'⟩,by simp only [bareF,hb]⟩
 ·rintro ht cs x ⟨pv,cv,rfl,hq,hc⟩
  obtain ⟨lc,hc',hb⟩:=in_poke hc hp n
  have hq':=hp.sl (u := .int .i64 n) hq (by decide) (by decide)
  rcases hp with ⟨hf,_⟩ | ⟨_,ho | ho⟩
  ·exact absurd (ht.uni hf) (by decide)
  ·rw [show o % kFuT.n=3 from ho]
   exact ⟨{ x with code:=lc,pos:=(n,x.pos.2) },⟨pv,cv,rfl,hq',hc'⟩,by simp only [bareF,hb]⟩
  ·rw [show o % kFuT.n=4 from ho]
   exact ⟨{ x with code:=lc,pos:=(x.pos.1,n) },⟨pv,cv,rfl,hq',hc'⟩,by simp only [bareF,hb]⟩
theorem PosC.poke {w:World} {g o g' o':Nat} {u:Value} (h:PosC w g o):PosC (w.setCell ⟨g',o',none⟩ u) g o:=h.imp (fun h=>⟨h.1.poke,h.2⟩) (fun h=>⟨h.1.poke,h.2⟩)
structure PgW (R:Nat->Prop) (w:World) (a b c d:Value) (p:Pg):Prop where
 chans:SlG kStr (fun k=>R k/\TB 9 w k) w a p.chans
 arrays:SlG kAr (fun k=>R k/\TB 87 w k) w b p.arrays
 funcs:∃ l,OwT kFuT R 74 w c l/\l.map bareF=p.funcs.map bareF
 main:∃ l,OwT kInT R 41 w d l/\l.map bareI=p.main.map bareI
theorem PgW.poke {R:Nat->Prop} {w:World} {a b c d:Value} {p:Pg} {g o:Nat} (h:PgW R w a b c d p) (hp:PosC w g o) (n:Int):PgW R (w.setCell ⟨g,o,none⟩ (.int .i64 n)) a b c d p:=by
 obtain ⟨lf,h3,e3⟩:=h.funcs
 obtain ⟨lm,h4,e4⟩:=h.main
 obtain ⟨lf',h3',e3'⟩:=fu_poke h3 hp n
 obtain ⟨lm',h4',e4'⟩:=in_poke h4 hp n
 exact ⟨hp.sl h.chans (by decide) (by decide),hp.sl h.arrays (by decide) (by decide),⟨lf',h3',e3'.trans e3⟩,⟨lm',h4',e4'.trans e4⟩⟩
theorem PgW.keep {R R':Nat->Prop} {w w':World} {a b c d:Value} {p:Pg} (h:PgW R w a b c d p) (hf:∀ k,R k->R' k/\w'.heap[k]?=w.heap[k]?):PgW R' w' a b c d p:=by
 obtain ⟨lf,h3,e3⟩:=h.funcs
 obtain ⟨lm,h4,e4⟩:=h.main
 exact ⟨h.chans.keep fun k hk=>⟨⟨(hf k hk.1).1,hk.2.keep (hf k hk.1).2⟩,(hf k hk.1).2⟩,h.arrays.keep fun k hk=>⟨⟨(hf k hk.1).1,hk.2.keep (hf k hk.1).2⟩,(hf k hk.1).2⟩,⟨lf,h3.keep hf,e3⟩,⟨lm,h4.keep hf,e4⟩⟩
theorem OwT.slF {R:Nat->Prop} {e:TypeId} {w:World} {v:Value} {l:List Fu} (h:OwT kFuT R e w v l) (hl:l.length<=140737488355328) (hc:∀ x ∈ l,x.code.length<=140737488355328):SlG kFu R w v l:=by
 obtain ⟨css,h1,h2,h3⟩:=h
 refine SlG.ofOwn (K:=kFu) ⟨h1.1,fun i hi hi'=>?_⟩ h2 hl h3
 obtain ⟨pv,cv,e,hp,hcd⟩:=h1.2 i hi hi'
 exact ⟨pv,cv,e,hp.weaken fun _ hk=>hk.1,hcd.sl (hc _ (List.getElem_mem hi))⟩
theorem OwT.at {α:Type} {K:EK α} {R:Nat->Prop} {e:TypeId} {w:World} {p:Option Addr} {n c:Nat} {l:List α} (h:OwT K R e w (.slice p n c) l) (hl:0<n) :
  ∃ b off,off=0/\p=some ⟨b,off,none⟩/\l.length=n/\R b/\TB e w b/\(∀ o,w.frozen? ⟨b,o,none⟩=false)/\∀ k (hk:k<l.length),∃ cs,K.E R w cs l[k]/\∀ i u,cs[i]?=some u->w.cell? ⟨b,off+k*K.n+i,none⟩=some u:=by
 obtain ⟨css,h1,⟨h2,h3⟩,h4⟩:=h
 rcases h3 with ⟨e,hn⟩ | ⟨g,cap,cur,e,hb,hg,h5,h6,h7,h8⟩
 ·cases e;omega
 ·cases e
  refine ⟨g,0,rfl,rfl,rfl,h4 g rfl,⟨cur,_,hg⟩,fun o=>by simp [World.frozen?,hg],fun k hk=>?_⟩
  have hk':k<css.length:=by rw [h1.1];exact hk
  refine ⟨css[k],h1.2 k hk hk',fun i u hu=>?_⟩
  have hi:i<K.n:=by
   have:=(List.getElem?_eq_some_iff.1 hu).1
   rwa [K.len (h1.2 k hk hk')] at this
  have hat:=h1.lens.at k i hk' hi
  rw [hu,<- h8] at hat
  rw [List.getElem?_take] at hat
  split at hat
  ·simp only [World.cell?,hg,Nat.zero_add]
   simpa using hat
  ·cases hat
theorem fewL_memA {l:List In} {y:In} (h:y ∈ fewL l):∃ x ∈ l,y=fewI x:=by
 obtain ⟨x,hx,rfl⟩:=List.mem_map.1 h
 exact ⟨x,List.mem_of_mem_take hx,rfl⟩
theorem fewL_lenA (l:List In):(fewL l).length<=1000000000000/\∀ y ∈ fewL l,y.args.length<=5864062014805:=by
 refine ⟨by unfold fewL;rw [List.length_map,List.length_take];omega,fun y hy=>?_⟩
 obtain ⟨x,_,rfl⟩:=fewL_memA hy
 show (x.args.take 34).length<=_
 rw [List.length_take];omega
theorem few_lenP (p:Pg):LenP (fewP p):=by
 refine ⟨?_,?_,?_,?_,fewL_lenA _⟩
 ·show (p.chans.take 34).length<=_;rw [List.length_take];omega
 ·show (p.arrays.take 34).length<=_;rw [List.length_take];omega
 ·show ((p.funcs.take 5).map fewF).length<=_;rw [List.length_map,List.length_take];omega
 ·intro g hg
  obtain ⟨f,_,rfl⟩:=List.mem_map.1 (show g ∈ (p.funcs.take 5).map fewF from hg)
  exact ⟨by show (f.params.take 34).length<=_;rw [List.length_take];omega,(fewL_lenA _).1,(fewL_lenA _).2⟩
end Go.Proofs.YtoofbgoeipijcaaGreatDoor
namespace Go.Proofs.YtoofbgoeipijcaaGreatDoor
set_option maxRecDepth 100000
set_option maxHeartbeats 8000000
set_option linter.all false
open Go.ChangeShapes Go.WideShapes Go.ChangeAt Go.RowKit Go.Joins
def u8v (c:UInt8):Value := .int .u8 (c.toNat:Int)
def Bys (R:Nat->Prop) (w:World) (v:Value) (b:List UInt8):Prop:=Sl R w v (b.map u8v)
theorem Bys.op {R:Nat->Prop} {w:World} {v:Value} {xs:List UInt8} (h:Bys R w v xs) :
  ∃ p c,v=.slice p xs.length c/\xs.length<=c/\c<=maxLen/\xs.length<=140737488355328/\RowR R w p (xs.map u8v):=by
 obtain ⟨p,c,e,h1,h2,h3,hr⟩:=h
 rw [List.length_map] at e h1 h3
 exact ⟨p,c,e,h1,h2,h3,hr⟩
theorem Bys.keep {R R':Nat->Prop} {w w':World} {v:Value} {xs:List UInt8} (h:Bys R w v xs) (hf:∀ k,R k->R' k/\w'.heap[k]?=w.heap[k]?):Bys R' w' v xs:=Sl.keep h hf
theorem Bys.below {R:Nat->Prop} {w w':World} {v:Value} {xs:List UInt8} (h:Bys R w v xs) (hR:∀ k,R k->k<w.heap.size) (hb:Below w.heap.size w w'):Bys R w' v xs:=Sl.keep h fun k hk=>⟨hk,hb.block k (hR k hk)⟩
section
variable {H:Type} {enc:TypeId × Value->H} {W:World}
end
end Go.Proofs.YtoofbgoeipijcaaGreatDoor
namespace Go.Proofs.YtoofbgoeipijcaaGreatDoor
set_option maxRecDepth 100000
set_option maxHeartbeats 8000000
set_option linter.all false
open Go.RowKit Go.Shelf
attribute [local go_sem] Oper.semAt_some
open Go.ChangeShapes Go.WideShapes Go.ChangeAt Go.Joins
section
variable {H:Type} {enc:TypeId × Value->H} {W:World}
def QS (s:Bs):Prop:=s.length<=140737488355328
def QA (a:Ag):Prop:=a.nm.length<=140737488355328/\a.num<18446744073709551616
def QR (a:Ar):Prop:=a.nm.length<=140737488355328 /\ -9223372036854775808<=a.size/\a.size<=9223372036854775807
def QI (x:In):Prop:=(x.kind<=255/\x.op<=255)/\x.dst.length<=140737488355328/\x.nm.length<=140737488355328/\(∀ a ∈ x.args,QA a)/\x.args.length<=5864062014805/\(-9223372036854775808<=x.pos.1/\x.pos.1<=9223372036854775807) /\ -9223372036854775808<=x.pos.2/\x.pos.2<=9223372036854775807
def QF (f:Fu):Prop:=f.nm.length<=140737488355328/\(∀ s ∈ f.params,QS s)/\(∀ x ∈ f.code,QI x)/\(-9223372036854775808<=f.pos.1/\f.pos.1<=9223372036854775807) /\ -9223372036854775808<=f.pos.2/\f.pos.2<=9223372036854775807
def QP (p:Pg):Prop:=(-9223372036854775808<=p.width/\p.width<=9223372036854775807)/\(∀ s ∈ p.chans,QS s)/\(∀ a ∈ p.arrays,QR a)/\(∀ f ∈ p.funcs,QF f)/\∀ x ∈ p.main,QI x
end
end Go.Proofs.YtoofbgoeipijcaaGreatDoor
namespace Go.Proofs.YtoofbgoeipijcaaGreatDoor
set_option maxRecDepth 100000
set_option maxHeartbeats 8000000
set_option linter.all false
open Go.RowKit Go.Shelf
attribute [local go_sem] Oper.semAt_some
theorem fewL_mem {l:List In} {y:In} (h:y ∈ fewL l):∃ x ∈ l,y=fewI x:=by
 obtain ⟨x,hx,rfl⟩:=List.mem_map.1 h
 exact ⟨x,List.mem_of_mem_take hx,rfl⟩
theorem few_ok {p:Pg} (h:QP p):PgOk (fewP p)/\NumP (fewP p):=by
 have hi:∀ {l:List In},(∀ x ∈ l,QI x)->∀ y ∈ fewL l,(y.kind<=255/\y.op<=255)/\NumI y:=fun hl y hy=>by
  obtain ⟨x,hx,rfl⟩:=fewL_mem hy
  refine ⟨(hl x hx).1,fun a ha=>?_⟩
  have:=((hl x hx).2.2.2.1 a (List.mem_of_mem_take ha)).2
  show a.num<=18446744073709551615
  omega
 have hf:∀ g ∈ (fewP p).funcs,∃ f ∈ p.funcs,g=fewF f:=fun g hg=>by
  obtain ⟨f,hf,rfl⟩:=List.mem_map.1 hg
  exact ⟨f,List.mem_of_mem_take hf,rfl⟩
 refine ⟨⟨fun g hg x hx=>?_,fun x hx=>(hi h.2.2.2.2 x hx).1⟩,⟨fun g hg x hx=>?_,fun x hx=>(hi h.2.2.2.2 x hx).2⟩⟩
 ·obtain ⟨f,hf',rfl⟩:=hf g hg
  exact (hi (h.2.2.2.1 f hf').2.2.1 x hx).1
 ·obtain ⟨f,hf',rfl⟩:=hf g hg
  exact (hi (h.2.2.2.1 f hf').2.2.1 x hx).2
end Go.Proofs.YtoofbgoeipijcaaGreatDoor
