/-
 The kit: copies of functions and programs.
-/
import Derived.Test.YtoofbgoeipijcaaGreatDoorVSPcD
import Derived.Deep.DeepCutAuto
namespace Go.Proofs.YtoofbgoeipijcaaGreatDoor
set_option linter.unusedSimpArgs false
set_option linter.unusedVariables false
open Go.RowKit Go.Shelf
attribute [local go_sem] Oper.semAt_some
def LenF (x:Fu):Prop:=x.params.length≤1000000000000∧x.code.length≤1000000000000∧∀ y ∈ x.code,y.args.length≤5864062014805
structure LenP (p:Pg):Prop where
 chans:p.chans.length≤1000000000000
 arrays:p.arrays.length≤1000000000000
 funcs:p.funcs.length≤1000000000000
 each:∀ f ∈ p.funcs,LenF f
 main:p.main.length≤1000000000000∧∀ y ∈ p.main,y.args.length≤5864062014805
theorem info_fuT:(Tryz.prog.info? 74).map (fun i=>(i.zero,i.size,i.bytes))=some (some (.agg #[.string ⟨#[]⟩,.slice none 0 0,.slice none 0 0,.int .i64 0,.int .i64 0]),kFuT.n,80):=info_fuG
set_option maxRecDepth 100000 in
set_option maxHeartbeats 4000000 in
theorem copyfus_any (l:List Fu) (v:Value) (w:World) (h:SlG kFu (·<w.heap.size) w v l) (hl:l.length≤1000000000000) (ha:∀ x ∈ l,LenF x) :
  Calls Tryz.prog 43 #[v] w fun e w'=>∃ v',e = .returned v'∧GF kFuT w.heap.size 74 w' v' l∧Below w.heap.size w w':=by
 obtain ⟨p,c,rfl⟩:=h.slc
 have HS:=hid h;have HL:=hid hl;have HA:=hid ha
 clear h hl ha
 go_enter Tryz.func43,Tryz.ntmps43
 go_wp2
 go_loopw [3,4] (fun ov iv wr=>∃ k:Nat,k≤l.length∧iv = .int .i64 (k:Int)∧GF kFuT w.heap.size 74 wr ov (l.take k)∧Below w.heap.size w wr) (fun _ iv _=>l.length - (intOf iv).toNat)
 case atStart=>exact ⟨0,Nat.zero_le _,rfl,GF.nil _ _ _ _,Below.refl _ _⟩
 case round =>
  obtain ⟨k,hk,rfl,hga,hbr⟩:=hrel
  obtain ⟨T,hT⟩:∃ T,l.take k=T:=⟨_,rfl⟩
  rw [hT] at hga
  have HTD:=hid hT
  clear hT
  obtain ⟨po,co,rfl⟩:=hga.slc
  by_cases hlt:k<l.length
  ·obtain ⟨b,off,rfl,hR,hcells⟩:=fu_at HS.out (by omega:0<l.length)
   obtain ⟨pp,cp,pq,cq,hpar,hcode,q0,q1,q2,q3,q4⟩:=hcells k hlt
   have q0:=(hbr.cell (p:=⟨b,off+k*5,none⟩) hR).trans q0
   have q1:=(hbr.cell (p:=⟨b,off+k*5+1,none⟩) hR).trans q1
   have q2:=(hbr.cell (p:=⟨b,off+k*5+2,none⟩) hR).trans q2
   have q3:=(hbr.cell (p:=⟨b,off+k*5+3,none⟩) hR).trans q3
   have q4:=(hbr.cell (p:=⟨b,off+k*5+4,none⟩) hR).trans q4
   have HPA:=hid (hpar.below hbr);have HCO:=hid (hcode.below hbr)
   have HSN:=hid (show l.take (k+1)=T++[l[k]] from by rw [List.take_succ_eq_append_getElem hlt,HTD.out])
   have HCL:=hid (show T.length+1≤1000000000000 from by rw [← HTD.out,List.length_take];have:=HL.out;omega)
   have HAL:=hid (HA.out l[k] (List.getElem_mem hlt))
   have HLT:=hid hlt;have HBO:=hid hbr;have HGO:=hid hga
   clear hcells hR hbr hga HTD hpar hcode
   generalize l[k]=x at *
   clear hlt
   go_wp2_with (first
    | (go_at_call 85;(refine (copyfu_any x _ _ _ HPA.out HCO.out HAL.out).mono ?_);rintro e w1 ⟨ua,ub,uc,ud,rfl,hE1,hb1⟩;have HE1:=hid hE1;have HB1:=hid (HBO.out.trans (hb1.mono HBO.out.size));have HGK:=hid (HGO.out.keep hb1);have HOL:=hid (fun k hk=>(HGO.out.lt k hk).2);have HZ1:=hid hb1.size;clear hE1 hb1 q0 q1 q2 q3 q4)
    | (at_builtin;refine wpList_pushF (K:=kFuT) (x:=x) (cs:=[.string ⟨x.nm.toArray⟩,.slice ua x.params.length ub,.slice uc x.code.length ud,.int .i64 x.pos.1,.int .i64 x.pos.2]) (te:=74) rfl _ _ 24 rfl Tryz.underlying24 _ 80 info_fuT rfl HGK.out (kFuT.keep HE1.out fun k hk=>⟨⟨Nat.le_trans HBO.out.size hk.1,hk.2,fun e=>by have:=HOL.out k e;omega⟩,rfl⟩) rfl rfl (by have:=HCL.out;omega) (by have:=HCL.out;unfold maxLen;omega) HB1.out.size ?_;intro v5 w5 hg5 hgr5 hm5;have HG5:=hid hg5;have HB5:=hid (below_push HGK.out.ga HB1.out hgr5 HB1.out.size);clear hg5 hgr5 hm5))
   go_roundw
   case rel=>exact ⟨k+1,HLT.out,by rw [wrap_next HLT.out HS.out.len],by rw [HSN.out];exact HG5.out,HB5.out⟩
   case measure=>exact meas_next HLT.out HS.out.len
  ·obtain rfl:k=l.length:=by omega
   have HBR:=hid hbr;have HGA:=hid hga
   clear hlt hbr hga
   go_wp2_with fail
   go_ret
   have hga:=HGA.out
   have hT:=HTD.out
   rw [List.take_length] at hT
   subst hT
   exact ⟨_,rfl,hga,HBR.out⟩
structure PgT (B:Nat) (w:World) (a b c d:Value) (p:Pg):Prop where
 chans:SlG kStr (fun k=>(B≤k∧k<w.heap.size)∧TB 9 w k) w a p.chans
 arrays:SlG kAr (fun k=>(B≤k∧k<w.heap.size)∧TB 87 w k) w b p.arrays
 funcs:OwT kFuT (fun k=>B≤k∧k<w.heap.size) 74 w c p.funcs
 main:OwT kInT (fun k=>B≤k∧k<w.heap.size) 41 w d p.main
theorem GF.owF {B e:Nat} {w:World} {v:Value} {l:List Fu} (h:GF kFuT B e w v l):OwT kFuT (fun k=>B≤k∧k<w.heap.size) e w v l:=by
 obtain ⟨css,h1,h2⟩:=h.row
 refine ⟨css,h1.weaken fun k hk=>⟨hk.1,hk.2.1⟩,⟨h2.1,?_⟩,fun k hk=>h2.lt k hk⟩
 rcases h2.2 with h | ⟨g,cap,cur,h3,hb,h4⟩
 ·exact .inl h
 ·exact .inr ⟨g,cap,cur,h3,Nat.zero_le _,h4⟩
set_option maxRecDepth 100000 in
set_option maxHeartbeats 8000000 in
theorem copypg_any (p:Pg) (a b c d:Value) (w:World) (hp:PgV (·<w.heap.size) w a b c d p) (hl:LenP p) :
  Calls Tryz.prog 13 #[.agg #[.int .i64 p.width,a,b,c,d]] w fun e w'=>∃ qa xa qb xb qc xc qd xd,e = .returned (.agg #[.int .i64 p.width,.slice qa p.chans.length xa,.slice qb p.arrays.length xb,.slice qc p.funcs.length xc,.slice qd p.main.length xd])∧PgT (w.heap.size+2) w' (.slice qa p.chans.length xa) (.slice qb p.arrays.length xb) (.slice qc p.funcs.length xc) (.slice qd p.main.length xd) p∧Below w.heap.size w w':=by
 obtain ⟨pa,ca,hva⟩:=hp.1.slc
 obtain ⟨pb,cb,hvb⟩:=hp.2.1.slc
 obtain ⟨pc,cc,hvc⟩:=hp.2.2.1.slc
 obtain ⟨pd,cd,hvd⟩:=hp.2.2.2.slc
 subst hva hvb hvc hvd
 have HP:=hid hp;have HL:=hid hl
 clear hp hl
 go_enter Tryz.func13,Tryz.ntmps13
 go_upto_region 1 with fail
 obtain ⟨w2,hw2⟩:∃ W,(w.alloc (.cells #[.int .i64 p.width,.slice pa p.chans.length ca,.slice pb p.arrays.length cb,.slice pc p.funcs.length cc,.slice pd p.main.length cd] 27)).alloc (.cells #[.int .i64 0,.slice none 0 0,.slice none 0 0,.slice none 0 0,.slice none 0 0] 27)=W:=⟨_,rfl⟩
 have HXD:=hid (show BxL 27 w.heap.size [.int .i64 p.width,.slice pa p.chans.length ca,.slice pb p.arrays.length cb,.slice pc p.funcs.length cc,.slice pd p.main.length cd] w2.drew from by rw [← hw2];exact (BxL.new _ _ _).al _)
 have HYD:=hid (show BxL 27 (w.heap.size+1) [.int .i64 0,.slice none 0 0,.slice none 0 0,.slice none 0 0,.slice none 0 0] w2.drew from by rw [← hw2];have h9:=BxL.new 27 (w.alloc (.cells #[.int .i64 p.width,.slice pa p.chans.length ca,.slice pb p.arrays.length cb,.slice pc p.funcs.length cc,.slice pd p.main.length cd] 27)) [.int .i64 0,.slice none 0 0,.slice none 0 0,.slice none 0 0,.slice none 0 0];rw [World.size_alloc] at h9;exact h9)
 have HBD:=hid (show Below w.heap.size w w2.drew from by rw [← hw2];exact (((Below.refl _ _).alloc (Nat.le_refl _) _).alloc (by rw [World.size_alloc];omega) _).trans (Below.refl _ _).drew)
 have HZD:=hid (show w2.drew.heap.size=w.heap.size+2 from by rw [← hw2];show ((w.alloc _).alloc _).heap.size=_;rw [World.size_alloc,World.size_alloc])
 have n0:w2.drew.cell? ⟨w.heap.size,0,none⟩=some (.int .i64 p.width):=HXD.out.at 0 rfl
 clear n0
 rw [hw2]
 clear hw2
 have hS:(fun W=>W.cell? ⟨w.heap.size,1,none⟩=some (.slice pa p.chans.length ca)∧W.cell? ⟨w.heap.size,2,none⟩=some (.slice pb p.arrays.length cb)∧W.cell? ⟨w.heap.size,3,none⟩=some (.slice pc p.funcs.length cc)∧W.cell? ⟨w.heap.size,4,none⟩=some (.slice pd p.main.length cd)) w2.drew:=⟨HXD.out.at 1 rfl,HXD.out.at 2 rfl,HXD.out.at 3 rfl,HXD.out.at 4 rfl⟩
 have hFa:=fT
 refine rgN (fun W=>W.cell? ⟨w.heap.size,1,none⟩=some (.slice pa p.chans.length ca)∧W.cell? ⟨w.heap.size,2,none⟩=some (.slice pb p.arrays.length cb)∧W.cell? ⟨w.heap.size,3,none⟩=some (.slice pc p.funcs.length cc)∧W.cell? ⟨w.heap.size,4,none⟩=some (.slice pd p.main.length cd)) 13 (by kernel_rfl) ?_
 simp only [List.size_toArray,List.length_cons,List.length_nil,Nat.reduceAdd]
 refine wpHJ_pure (v:=?v0) 0 hFa rfl (by kernel_rfl) nE (Or.inl ⟨by rfl,?y0⟩) (.inr hS) ?r0
 case y0=>(intro w' _;go_simp;try rfl)
 simp only [Act.put,actP]
 refine wpHJ_take (v:=?v1) 1 hFa rfl (by kernel_rfl) nE (Or.inl ⟨by rfl,?y1⟩) hS ?r1
 case y1=>(rintro w' ⟨s0,s1,s2,s3⟩;go_simp;try rfl)
 simp only [Act.put,actP]
 refine wpHJ_pure (v:=?v7) 3 hFa rfl (by kernel_rfl) nE (Or.inl ⟨by rfl,?y7⟩) (.inr hS) ?r7
 case y7=>(intro w' _;go_simp;try rfl)
 simp only [Act.put,actP]
 refine wpHJ_take (v:=?v8) 4 hFa rfl (by kernel_rfl) nE (Or.inl ⟨by rfl,?y8⟩) hS ?r8
 case y8=>(rintro w' ⟨s0,s1,s2,s3⟩;go_simp;try rfl)
 simp only [Act.put,actP]
 refine wpHJ_pure (v:=?v9) 6 hFa rfl (by kernel_rfl) nE (Or.inl ⟨by rfl,?y9⟩) (.inr hS) ?r9
 case y9=>(intro w' _;go_simp;try rfl)
 simp only [Act.put,actP]
 refine wpHJ_take (v:=?va) 7 hFa rfl (by kernel_rfl) nE (Or.inl ⟨by rfl,?ya⟩) hS ?ra
 case ya=>(rintro w' ⟨s0,s1,s2,s3⟩;go_simp;try rfl)
 simp only [Act.put,actP]
 refine wpHJ_pure (v:=?vb) 9 hFa rfl (by kernel_rfl) nE (Or.inl ⟨by rfl,?yb⟩) (.inr hS) ?rb
 case yb=>(intro w' _;go_simp;try rfl)
 simp only [Act.put,actP]
 refine wpHJ_take (v:=?v2) 10 hFa rfl (by kernel_rfl) nE (Or.inl ⟨by rfl,?y2⟩) hS ?r2
 case y2=>(rintro w' ⟨s0,s1,s2,s3⟩;go_simp;try rfl)
 simp only [Act.put,actP]
 refine wpHJ_only 2 (by kernel_rfl) rfl ?_
 intro K hK
 go_simp
 (refine (callsIn_wide.2 (copystrs_any p.chans _ _ (HP.out.1.below HBD.out) HL.out.chans)).mono ?_)
 rintro e wa ⟨u1,rfl,hg,hb⟩
 obtain ⟨qa,xa,rfl⟩:=hg.slc
 have HG1:=hid hg
 have HB1:=hid (HBD.out.trans (hb.mono HBD.out.size))
 have HX1:=hid (HXD.out.bel hb)
 have HY1:=hid (HYD.out.bel hb)
 have HZ1:=hid hb.size
 clear hg hb
 refine hK _ _ (.inr (.inr ⟨HX1.out.at 1 rfl,HX1.out.at 2 rfl,HX1.out.at 3 rfl,HX1.out.at 4 rfl⟩)) ?_
 clear hK K
 refine wpHJ_pure (v:=?v3) 12 hFa rfl (by kernel_rfl) nE (Or.inl ⟨by rfl,?y3⟩) (.inr ⟨HX1.out.at 1 rfl,HX1.out.at 2 rfl,HX1.out.at 3 rfl,HX1.out.at 4 rfl⟩) ?r3
 case y3=>(intro w' _;go_simp;try rfl)
 simp only [Act.put,actP]
 refine wpHJ_only 5 (by kernel_rfl) rfl ?_
 intro K hK
 go_simp
 (refine (callsIn_wide.2 (copyarrs_any p.arrays _ _ (HP.out.2.1.below HB1.out) HL.out.arrays)).mono ?_)
 rintro e wb ⟨u2,rfl,hg,hb⟩
 obtain ⟨qb,xb,rfl⟩:=hg.slc
 have HG2:=hid hg
 have HB2:=hid (HB1.out.trans (hb.mono HB1.out.size))
 have HX2:=hid (HX1.out.bel hb)
 have HY2:=hid (HY1.out.bel hb)
 have HZ2:=hid hb.size
 have HG12:=hid (HG1.out.keep hb)
 clear hg hb
 refine hK _ _ (.inr (.inr ⟨HX2.out.at 1 rfl,HX2.out.at 2 rfl,HX2.out.at 3 rfl,HX2.out.at 4 rfl⟩)) ?_
 clear hK K
 refine wpHJ_only 8 (by kernel_rfl) rfl ?_
 intro K hK
 go_simp
 (refine (callsIn_wide.2 (copyfus_any p.funcs _ _ (HP.out.2.2.1.below HB2.out) HL.out.funcs HL.out.each)).mono ?_)
 rintro e wc ⟨u3,rfl,hg,hb⟩
 obtain ⟨qc,xc,rfl⟩:=hg.slc
 have HG3:=hid hg
 have HB3:=hid (HB2.out.trans (hb.mono HB2.out.size))
 have HX3:=hid (HX2.out.bel hb)
 have HY3:=hid (HY2.out.bel hb)
 have HZ3:=hid hb.size
 have HG13:=hid (HG12.out.keep hb)
 have HG23:=hid (HG2.out.keep hb)
 clear hg hb
 refine hK _ _ (.inr (.inr ⟨HX3.out.at 1 rfl,HX3.out.at 2 rfl,HX3.out.at 3 rfl,HX3.out.at 4 rfl⟩)) ?_
 clear hK K
 refine wpHJ_only 11 (by kernel_rfl) rfl ?_
 intro K hK
 go_simp
 (refine (callsIn_wide.2 (copyinsT_any p.main _ _ (HP.out.2.2.2.below HB3.out) HL.out.main.1 HL.out.main.2)).mono ?_)
 rintro e wd ⟨u4,rfl,hg,hb⟩
 obtain ⟨qd,xd,rfl⟩:=hg.slc
 have HG4:=hid hg
 have HB4:=hid (HB3.out.trans (hb.mono HB3.out.size))
 have HX4:=hid (HX3.out.bel hb)
 have HY4:=hid (HY3.out.bel hb)
 have HZ4:=hid hb.size
 have HG14:=hid (HG13.out.keep hb)
 have HG24:=hid (HG23.out.keep hb)
 have HG34:=hid (HG3.out.keep hb)
 clear hg hb
 have c1:(wd).cell? ⟨w.heap.size,1,none⟩=some (.slice pa p.chans.length ca):=HX4.out.at 1 rfl
 have f1:(wd).frozen? ⟨w.heap.size,1,none⟩=false:=HX4.out.fr 1
 have c2:∀ v1,(wd.setCell ⟨w.heap.size,1,none⟩ v1).cell? ⟨w.heap.size,2,none⟩=some (.slice pb p.arrays.length cb):=fun v1=>(HX4.out.set 1 _).at 2 rfl
 have f2:∀ v1,(wd.setCell ⟨w.heap.size,1,none⟩ v1).frozen? ⟨w.heap.size,2,none⟩=false:=fun v1=>(HX4.out.set 1 _).fr 2
 have c3:∀ v1 v2,((wd.setCell ⟨w.heap.size,1,none⟩ v1).setCell ⟨w.heap.size,2,none⟩ v2).cell? ⟨w.heap.size,3,none⟩=some (.slice pc p.funcs.length cc):=fun v1 v2=>((HX4.out.set 1 _).set 2 _).at 3 rfl
 have f3:∀ v1 v2,((wd.setCell ⟨w.heap.size,1,none⟩ v1).setCell ⟨w.heap.size,2,none⟩ v2).frozen? ⟨w.heap.size,3,none⟩=false:=fun v1 v2=>((HX4.out.set 1 _).set 2 _).fr 3
 have c4:∀ v1 v2 v3,(((wd.setCell ⟨w.heap.size,1,none⟩ v1).setCell ⟨w.heap.size,2,none⟩ v2).setCell ⟨w.heap.size,3,none⟩ v3).cell? ⟨w.heap.size,4,none⟩=some (.slice pd p.main.length cd):=fun v1 v2 v3=>(((HX4.out.set 1 _).set 2 _).set 3 _).at 4 rfl
 have f4:∀ v1 v2 v3,(((wd.setCell ⟨w.heap.size,1,none⟩ v1).setCell ⟨w.heap.size,2,none⟩ v2).setCell ⟨w.heap.size,3,none⟩ v3).frozen? ⟨w.heap.size,4,none⟩=false:=fun v1 v2 v3=>(((HX4.out.set 1 _).set 2 _).set 3 _).fr 4
 refine hK _ _ (.inr (.inr ⟨HX4.out.at 1 rfl,HX4.out.at 2 rfl,HX4.out.at 3 rfl,HX4.out.at 4 rfl⟩)) ?_
 clear hK K
 refine wpHJ_only 13 (by kernel_rfl) rfl ?_
 intro K hK
 go_simp
 refine hK _ _ (.inl rfl) ?_
 clear hK K
 refine wpHJ_pure (v:=?v4) 14 hFa rfl (by kernel_rfl) nE (Or.inl ⟨by rfl,?y4⟩) (.inl rfl) ?r4
 case y4=>(intro w' _;go_simp;try rfl)
 simp only [Act.put,actP]
 refine wpHJ_only 15 (by kernel_rfl) rfl ?_
 intro K hK
 go_simp
 refine hK _ _ (.inr (.inl rfl)) ?_
 clear hK K
 refine wpHJ_pure (v:=?v5) 16 hFa rfl (by kernel_rfl) nE (Or.inl ⟨by rfl,?y5⟩) (.inl rfl) ?r5
 case y5=>(intro w' _;go_simp;try rfl)
 simp only [Act.put,actP]
 refine wpHJ_only 17 (by kernel_rfl) rfl ?_
 intro K hK
 go_simp
 refine hK _ _ (.inr (.inl rfl)) ?_
 clear hK K
 refine wpHJ_pure (v:=?v6) 18 hFa rfl (by kernel_rfl) nE (Or.inl ⟨by rfl,?y6⟩) (.inl rfl) ?r6
 case y6=>(intro w' _;go_simp;try rfl)
 simp only [Act.put,actP]
 refine wpHJ_only 19 (by kernel_rfl) rfl ?_
 intro K hK
 go_simp
 refine hK _ _ (.inr (.inl rfl)) ?_
 clear hK K
 refine wpHJ_done (by kernel_rfl) ?_ _
 simp only [onlyN,Exit.then]
 clear hFa
 clear hS c1 f1 c2 f2 c3 f3 c4 f4
 obtain ⟨w8,hw8⟩:∃ W,(((wd.setCell ⟨w.heap.size,1,none⟩ (.slice qa p.chans.length xa)).setCell ⟨w.heap.size,2,none⟩ (.slice qb p.arrays.length xb)).setCell ⟨w.heap.size,3,none⟩ (.slice qc p.funcs.length xc)).setCell ⟨w.heap.size,4,none⟩ (.slice qd p.main.length xd)=W:=⟨_,rfl⟩
 have hx8:BxL 27 w.heap.size [.int .i64 p.width,.slice qa p.chans.length xa,.slice qb p.arrays.length xb,.slice qc p.funcs.length xc,.slice qd p.main.length xd] w8:=by rw [← hw8];exact (((HX4.out.set 1 _).set 2 _).set 3 _).set 4 _
 have hk8:∀ j,j ≠ w.heap.size→w8.heap[j]?=wd.heap[j]?:=fun j h=>by rw [← hw8,heap_ot h,heap_ot h,heap_ot h,heap_ot h]
 have hy8:BxL 27 (w.heap.size+1) [.int .i64 0,.slice none 0 0,.slice none 0 0,.slice none 0 0,.slice none 0 0] w8:=HY4.out.keep (hk8 _ (by omega))
 have HB8:=hid (show Below w.heap.size w w8 from by rw [← hw8];exact (((HB4.out.setCell (p:=⟨w.heap.size,1,none⟩) (Nat.le_refl _) _).setCell (p:=⟨w.heap.size,2,none⟩) (Nat.le_refl _) _).setCell (p:=⟨w.heap.size,3,none⟩) (Nat.le_refl _) _).setCell (p:=⟨w.heap.size,4,none⟩) (Nat.le_refl _) _)
 have HS8:=hid (show w8.heap.size=wd.heap.size from by rw [← hw8];simp only [World.size_setCell])
 have HK8:=hid hk8;have HY8:=hid hy8
 rw [hw8]
 clear hw8 hk8
 obtain ⟨x0,x1,x2,x3,x4⟩:=hx8.p5
 have y0:w8.cell? ⟨w.heap.size+1,0,none⟩=some (.int .i64 0):=hy8.at 0 rfl
 have g0:w8.frozen? ⟨w.heap.size+1,0,none⟩=false:=hy8.fr 0
 have y1:w8.cell? ⟨w.heap.size+1,1,none⟩=some (.slice none 0 0):=hy8.at 1 rfl
 have g1:w8.frozen? ⟨w.heap.size+1,1,none⟩=false:=hy8.fr 1
 have y2:w8.cell? ⟨w.heap.size+1,2,none⟩=some (.slice none 0 0):=hy8.at 2 rfl
 have g2:w8.frozen? ⟨w.heap.size+1,2,none⟩=false:=hy8.fr 2
 have y3:w8.cell? ⟨w.heap.size+1,3,none⟩=some (.slice none 0 0):=hy8.at 3 rfl
 have g3:w8.frozen? ⟨w.heap.size+1,3,none⟩=false:=hy8.fr 3
 have y4:w8.cell? ⟨w.heap.size+1,4,none⟩=some (.slice none 0 0):=hy8.at 4 rfl
 have g4:w8.frozen? ⟨w.heap.size+1,4,none⟩=false:=hy8.fr 4
 clear hx8 hy8
 go_wp2_with fail
 clear x0 y0 g0 x1 y1 g1 x2 y2 g2 x3 y3 g3 x4 y4 g4
 obtain ⟨wq,hwq⟩:∃ W,((((w8.setCell ⟨w.heap.size+1,0,none⟩ (.int .i64 p.width)).setCell ⟨w.heap.size+1,1,none⟩ (.slice qa p.chans.length xa)).setCell ⟨w.heap.size+1,2,none⟩ (.slice qb p.arrays.length xb)).setCell ⟨w.heap.size+1,3,none⟩ (.slice qc p.funcs.length xc)).setCell ⟨w.heap.size+1,4,none⟩ (.slice qd p.main.length xd)=W:=⟨_,rfl⟩
 rw [hwq]
 have hyq:BxL 27 (w.heap.size+1) [.int .i64 p.width,.slice qa p.chans.length xa,.slice qb p.arrays.length xb,.slice qc p.funcs.length xc,.slice qd p.main.length xd] wq:=by rw [← hwq];exact ((((HY8.out.set 0 _).set 1 _).set 2 _).set 3 _).set 4 _
 have hkq:∀ j,j ≠ w.heap.size→j ≠ w.heap.size+1→wq.heap[j]?=wd.heap[j]?:=fun j h1 h2=>by rw [← hwq,heap_ot h2,heap_ot h2,heap_ot h2,heap_ot h2,heap_ot h2];exact HK8.out j h1
 have hsq:wq.heap.size=wd.heap.size:=by rw [← hwq];simp only [World.size_setCell];exact HS8.out
 have hbq:Below w.heap.size w wq:=by
  rw [← hwq]
  exact ((((HB8.out.setCell (p:=⟨w.heap.size+1,0,none⟩) (Nat.le_succ _) _).setCell (p:=⟨w.heap.size+1,1,none⟩) (Nat.le_succ _) _).setCell (p:=⟨w.heap.size+1,2,none⟩) (Nat.le_succ _) _).setCell (p:=⟨w.heap.size+1,3,none⟩) (Nat.le_succ _) _).setCell (p:=⟨w.heap.size+1,4,none⟩) (Nat.le_succ _) _
 have e0':wq.cell? ⟨w.heap.size+1,0,none⟩=some (.int .i64 p.width):=hyq.at 0 rfl
 have e1':wq.cell? ⟨w.heap.size+1,1,none⟩=some (.slice qa p.chans.length xa):=hyq.at 1 rfl
 have e2':wq.cell? ⟨w.heap.size+1,2,none⟩=some (.slice qb p.arrays.length xb):=hyq.at 2 rfl
 have e3':wq.cell? ⟨w.heap.size+1,3,none⟩=some (.slice qc p.funcs.length xc):=hyq.at 3 rfl
 have e4':wq.cell? ⟨w.heap.size+1,4,none⟩=some (.slice qd p.main.length xd):=hyq.at 4 rfl
 clear hwq hyq
 refine bodyPost_ret (v := .agg #[.int .i64 p.width,.slice qa p.chans.length xa,.slice qb p.arrays.length xb,.slice qc p.funcs.length xc,.slice qd p.main.length xd]) (by simp [results,Tryz.results13,go_sem,e0',e1',e2',e3',e4']) rfl ?_
 have h0:=HZD.out;have h1:=HZ1.out;have h2:=HZ2.out;have h3:=HZ3.out;have h4:=HZ4.out
 have hm:∀ k,w.heap.size+2≤k→wq.heap[k]?=wd.heap[k]?:=fun k hk=>hkq k (by omega) (by omega)
 refine ⟨_,_,_,_,_,_,_,_,rfl,⟨?_,?_,?_,?_⟩,hbq⟩
 ·exact (HG14.out.slT (Nat.le_trans HL.out.chans (by decide)) (fun h=>h)).keep fun k hk=>⟨⟨⟨by omega,by omega⟩,hk.2.keep (hm k (by omega))⟩,hm k (by omega)⟩
 ·exact (HG24.out.slT (Nat.le_trans HL.out.arrays (by decide)) (fun h=>h)).keep fun k hk=>⟨⟨⟨by omega,by omega⟩,hk.2.keep (hm k (by omega))⟩,hm k (by omega)⟩
 ·exact HG34.out.owF.keep fun k hk=>⟨⟨by omega,by omega⟩,hm k (by omega)⟩
 ·exact HG4.out.owt.keep fun k hk=>⟨⟨by omega,by omega⟩,hm k (by omega)⟩
end Go.Proofs.YtoofbgoeipijcaaGreatDoor
