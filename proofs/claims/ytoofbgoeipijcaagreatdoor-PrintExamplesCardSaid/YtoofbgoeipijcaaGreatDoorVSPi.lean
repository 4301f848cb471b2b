/-
 A part.
-/
import Derived.Test.YtoofbgoeipijcaaGreatDoorVSPw
namespace Go.Proofs.YtoofbgoeipijcaaGreatDoor
set_option maxRecDepth 100000
set_option maxHeartbeats 4000000
set_option linter.all false
open Go.RowKit Go.Shelf
attribute [local go_sem] Oper.semAt_some
theorem ga_one {B e:Nat} {w:World} {p:Option Addr} {n c:Nat} {A:Bs} (h:GA kStr B e w (.slice p n c) [A]):∃ b off,p=some ⟨b,off,none⟩/\b<w.heap.size/\w.cell? ⟨b,off,none⟩=some (.string ⟨A.toArray⟩):=by
 obtain ⟨_,_,_,hr⟩:=(h.sl (by simp)).strs
 obtain ⟨b,off,e,hb,hc⟩:=hr.at 0 (by simp)
 exact ⟨b,off,e,hb,hc 0 (by simp)⟩
theorem ga_two {B e:Nat} {w:World} {p:Option Addr} {n c:Nat} {A D:Bs} (h:GA kStr B e w (.slice p n c) [A,D]):∃ b off,p=some ⟨b,off,none⟩/\b<w.heap.size/\w.cell? ⟨b,off,none⟩=some (.string ⟨A.toArray⟩)/\w.cell? ⟨b,off+1,none⟩=some (.string ⟨D.toArray⟩):=by
 obtain ⟨_,_,_,hr⟩:=(h.sl (by simp)).strs
 obtain ⟨b,off,e,hb,hc⟩:=hr.at 0 (by simp)
 exact ⟨b,off,e,hb,hc 0 (by simp),hc 1 (by simp)⟩
theorem rjoin_lit (L:List Bs) (w:World) (h0:L ≠ []) (hL:L.length<=5) (hs:∀ s ∈ L,s.length<=32) :
  Calls Tryz.prog 53 #[.slice (some ⟨w.heap.size,0,none⟩) L.length L.length] (w.alloc (.cells (L.map sv).toArray 9)) fun e w'=>e=.returned (.string ⟨(jn L).toArray⟩)/\Below w.heap.size w w':=by
 have h1:GA kStr w.heap.size 9 (w.alloc (.cells (L.map sv).toArray 9)) (.slice (some ⟨w.heap.size,0,none⟩) L.length L.length) L:=GA.litS w 9 L h0 (by omega) lrf
 refine (rjoin_any L _ _ _ (h1.sl (by omega)) (by omega) (fun s h=>Nat.le_trans (hs s h) (by omega))).mono fun e w' h=>⟨h.1,?_⟩
 exact (bA).trans (h.2.mono (by rw [sA];omega))
theorem form_len {x:In} (h:formB x=true) (hk:x.kind ≠ 1) (hw:0<=(fieldsL.getD x.kind (false,false,0)).2.2):(x.args.length:Int)=(fieldsL.getD x.kind (false,false,0)).2.2:=by
 unfold formB at h
 simp only [Bool.and_eq_true,decide_eq_true_eq,Bool.or_eq_true] at h
 obtain ⟨⟨⟨⟨⟨⟨h1,h2⟩,h3⟩,h4⟩,h5⟩,h6⟩,h7⟩:=h
 have hwant:wantM x=(fieldsL.getD x.kind (false,false,0)).2.2:=by unfold wantM;rw [if_neg hk]
 rw [hwant] at h5
 rcases h5 with h5 | h5
 ·omega
 ·exact h5
theorem nm_len {x:In} (h:formB x=true):∀ a ∈ x.args,a.nm.length<=140737488355328:=by
 unfold formB at h
 simp only [Bool.and_eq_true] at h
 intro a ha
 have h8:=List.all_eq_true.1 h.2 a ha
 unfold argB at h8
 simp only [Bool.or_eq_true,Bool.and_eq_true,decide_eq_true_eq] at h8
 rcases h8 with h8 | h8
 ·rw [h8];simp
 ·exact Nat.le_trans (named_len h8.1) (by decide)
theorem heap_al_lt {w:World} {o:Obj} {k:Nat} (h:k<w.heap.size):(w.alloc o).heap[k]?=w.heap[k]?:=by rw [heap_al,if_neg (by omega)]
theorem rinstr_0 (op:Nat) (dst nm:Bs) (a0:Ag) (pos:Int × Int) (v:Value) (w:World) (hop:op<=255) (hfm:formB ⟨0,op,dst,nm,[a0],pos⟩=true) (hn:∀ a ∈ [a0],a.num<18446744073709551616) (h:SlG kAg (·<w.heap.size) w v [a0]) :
  Calls Tryz.prog 63 #[.agg #[.int .u8 0,.int .u8 (op:Int),.string ⟨dst.toArray⟩,.string ⟨nm.toArray⟩,v,.int .i64 pos.1,.int .i64 pos.2]] w fun e w'=>e=.returned (.tuple #[.string ⟨(jn [dst,[61],argT a0]).toArray⟩,.int .i64 0])/\Below w.heap.size w w':=by
 have HF:=hid (form_s hfm hn)
 obtain ⟨pa,ca,hv⟩:=h.slc
 have hv:v=.slice pa 1 ca:=hv
 subst hv
 have HSL:=hid h;have HNU:=hid hn;have HOP:=hid hop
 obtain ⟨A0,hA0⟩:∃ A,argT a0=A:=⟨_,rfl⟩
 have HL0:=hid (show A0.length<=32 from by rw [<- hA0];exact HF.each a0 (by simp))
 have HM:=hid (show List.map argT [a0]=[A0] from by simp only [List.map_cons,List.map_nil,hA0])
 rw [hA0]
 clear hA0
 have HFM:=hid hfm
 clear h hn hop hfm
 go_enter Tryz.func63,Tryz.ntmps63
 go_upto_region 1 with fail
 obtain ⟨wo,hwo⟩:∃ W,w.alloc (.cells #[.int .u8 0,.int .u8 (op:Int),.string ⟨dst.toArray⟩,.string ⟨nm.toArray⟩,.slice pa 1 ca,.int .i64 pos.1,.int .i64 pos.2] 41)=W:=⟨_,rfl⟩
 have HX:=hid (show BxL 41 w.heap.size [.int .u8 0,.int .u8 (op:Int),.string ⟨dst.toArray⟩,.string ⟨nm.toArray⟩,.slice pa 1 ca,.int .i64 pos.1,.int .i64 pos.2] wo from by rw [<- hwo];exact BxL.new _ _ _)
 have HB:=hid (show Below w.heap.size w wo from by rw [<- hwo];exact bA)
 rw [hwo]
 clear hwo
 obtain ⟨n0,n1,n2,n3,n4,n5,n6⟩:=HX.p7
 go_upto_region 6 with (first
  | (go_at_call 96;(refine (rform_any ⟨0,op,dst,nm,[a0],pos⟩ (.slice pa 1 ca) _ HOP.out (Nat.le_trans HF.out.dlen (by decide)) (Nat.le_trans HF.out.nlen (by decide)) (fun a ha=>nm_len HFM.out a ha) (HSL.out.below HB.out)).mono ?_);rintro e w1 ⟨rfl,hb1⟩;rw [HFM.out];have HX1:=hid (HX.out.bel hb1);have HB1:=hid (HB.out.trans (hb1.mono HB.out.size));clear hb1 n0 n1 n2 n3 n4 n5 n6;have m4:w1.cell? ⟨w.heap.size,4,none⟩=some (.slice pa 1 ca):=HX1.out.at 4 rfl)
  | (go_at_call 97;(refine (rargs_any [a0] (.slice pa 1 ca) _ (HSL.out.below HB1.out) (by have:=HF.out.alen;omega) HNU.out).mono ?_);rintro e w2 ⟨v2,rfl,hg2,hbb⟩;rw [HM.out] at hg2;obtain ⟨p2,c2,hv2⟩:=hg2.slc;have hv2:v2=.slice p2 1 c2:=hv2;subst hv2;have HX2:=hid (HX1.out.bel hbb);have HB2:=hid (HB1.out.trans (hbb.mono HB1.out.size));obtain ⟨k0,k1,k2,k3⟩:=HX2.out.p4;obtain ⟨b2,o2,rfl,hb2,hc2⟩:=ga_one hg2;have HC2:=hid hc2;have HBB:=hid hb2;clear hb2;clear hbb hg2 m4))
 have HBD:=hid (show Below w.heap.size w w2.drew from HB2.trans ((Below.refl w2.heap.size w2).drew.mono HB2.size))
 have hS:(fun W=>W.cell? ⟨w.heap.size,2,none⟩=some (.string ⟨dst.toArray⟩)/\W.cell? ⟨w.heap.size,3,none⟩=some (.string ⟨nm.toArray⟩)/\W.cell? ⟨b2,o2,none⟩=some (.string ⟨A0.toArray⟩)) w2.drew:=⟨k2,k3,HC2.out⟩
 have hFa:=fT
 refine rgN (fun W=>W.cell? ⟨w.heap.size,2,none⟩=some (.string ⟨dst.toArray⟩)/\W.cell? ⟨w.heap.size,3,none⟩=some (.string ⟨nm.toArray⟩)/\W.cell? ⟨b2,o2,none⟩=some (.string ⟨A0.toArray⟩)) 5 (by kernel_rfl) ?_
 simp only [zP,Nat.reduceAdd]
 refine wpHJ_pure (v:=?v0) 0 hFa rfl (by kernel_rfl) nE (Or.inl ⟨by rfl,?y0⟩) (.inr hS) ?r0
 case y0=>(intro w' _;go_simp;try rfl)
 simp only [Act.put,List.getElem_toArray,List.getElem_cons_succ,List.getElem_cons_zero,List.setIfInBounds_toArray,List.set_cons_zero,List.set_cons_succ]
 refine wpHJ_take (v:=?v1) 1 hFa rfl (by kernel_rfl) nE (Or.inl ⟨by rfl,?y1⟩) hS ?r1
 case y1=>(rintro w' ⟨s0,s1,s2⟩;go_simp;try rfl)
 simp only [Act.put,List.getElem_toArray,List.getElem_cons_succ,List.getElem_cons_zero,List.setIfInBounds_toArray,List.set_cons_zero,List.set_cons_succ]
 iterate 2 (refine npW (v:=?_) 9 (.inr hS) ?_ ?_;rotate_left;(focus intro w' _;go_simp;try rfl);simp only [aP])
 refine wpHJ_take (v:=?v4) 4 hFa rfl (by kernel_rfl) nE (Or.inl ⟨by rfl,?y4⟩) hS ?r4
 case y4=>(rintro w' ⟨s0,s1,s2⟩;go_simp;try rfl)
 simp only [Act.put,List.getElem_toArray,List.getElem_cons_succ,List.getElem_cons_zero,List.setIfInBounds_toArray,List.set_cons_zero,List.set_cons_succ]
 refine oy 5 fun K hK=>?_
 go_simp
 refine hK _ _ (.inl rfl) ?_
 clear hK K
 refine oy 6 fun K hK=>?_
 go_simp
 (refine (callsIn_wide.2 (rjoin_lit [dst,[61],A0] w2.drew (by simp) (by simp) (List.forall_mem_cons.2 ⟨HF.dlen,List.forall_mem_cons.2 ⟨by decide,List.forall_mem_cons.2 ⟨HL0.out,List.forall_mem_nil _⟩⟩⟩))).mono ?_)
 rintro e w3 ⟨rfl,hb3⟩
 have HB3:=hid (HBD.trans (hb3.mono HBD.size))
 clear hb3
 refine hK _ _ (.inr (.inl rfl)) ?_
 clear hK K
 iterate 2 (refine npW (v:=?_) 9 (.inl rfl) ?_ ?_;rotate_left;(focus intro w' _;go_simp;try rfl);simp only [aP])
 refine wpHJ_done (by kernel_rfl) ?_ _
 simp only [onlyN,Exit.then]
 clear hFa
 clear hS
 go_wp2_with fail
 go_ret2
 exact ⟨rfl,HB3.out⟩
theorem rinstr_1 (op:Nat) (dst nm:Bs) (args:List Ag) (pos:Int × Int) (v:Value) (w:World) (hop:op<=255) (hfm:formB ⟨1,op,dst,nm,args,pos⟩=true) (hn:∀ a ∈ args,a.num<18446744073709551616) (h:SlG kAg (·<w.heap.size) w v args) :
  Calls Tryz.prog 63 #[.agg #[.int .u8 1,.int .u8 (op:Int),.string ⟨dst.toArray⟩,.string ⟨nm.toArray⟩,v,.int .i64 pos.1,.int .i64 pos.2]] w fun e w'=>e=.returned (.tuple #[.string ⟨(jn ([dst,[61],opT op]++args.map argT)).toArray⟩,.int .i64 0])/\Below w.heap.size w w':=by
 have HF:=hid (form_s hfm hn)
 obtain ⟨pa,ca,hv⟩:=h.slc
 have hv:v=.slice pa args.length ca:=hv
 subst hv
 have HSL:=hid h;have HNU:=hid hn;have HOP:=hid hop
 obtain ⟨T,hT⟩:∃ T,args.map argT=T:=⟨_,rfl⟩
 have HTL:=hid (show T.length<=32 from by rw [<- hT,List.length_map];exact HF.alen)
 have HTS:=hid (show ∀ s ∈ T,s.length<=32 from by rw [<- hT];intro s hs;obtain ⟨a,ha,rfl⟩:=List.mem_map.1 hs;exact HF.each a ha)
 have HM:=hid hT
 rw [hT]
 obtain ⟨U,hU⟩:∃ U,[dst,[61],opT op]++T=U:=⟨_,rfl⟩
 have HUD:=hid hU
 have HUS:Hid (∀ s ∈ U,s.length<=1000):=by
  rw [<- hU];intro s hs
  rcases List.mem_append.1 hs with hs | hs
  ·exact Nat.le_trans ((show ∀ s ∈ [dst,[61],opT op],s.length<=32 from List.forall_mem_cons.2 ⟨HF.dlen,List.forall_mem_cons.2 ⟨by decide,List.forall_mem_cons.2 ⟨HF.olen rfl,List.forall_mem_nil _⟩⟩⟩) s hs) (by omega)
  ·exact Nat.le_trans (HTS.out s hs) (by omega)
 rw [hU]
 clear hT hU
 have HFM:=hid hfm
 clear h hn hop hfm
 go_enter Tryz.func63,Tryz.ntmps63
 go_upto_region 1 with fail
 obtain ⟨wo,hwo⟩:∃ W,w.alloc (.cells #[.int .u8 1,.int .u8 (op:Int),.string ⟨dst.toArray⟩,.string ⟨nm.toArray⟩,.slice pa args.length ca,.int .i64 pos.1,.int .i64 pos.2] 41)=W:=⟨_,rfl⟩
 have HX:=hid (show BxL 41 w.heap.size [.int .u8 1,.int .u8 (op:Int),.string ⟨dst.toArray⟩,.string ⟨nm.toArray⟩,.slice pa args.length ca,.int .i64 pos.1,.int .i64 pos.2] wo from by rw [<- hwo];exact BxL.new _ _ _)
 have HB:=hid (show Below w.heap.size w wo from by rw [<- hwo];exact bA)
 rw [hwo]
 clear hwo
 obtain ⟨n0,n1,n2,n3,n4,n5,n6⟩:=HX.p7
 go_wp2_with (first
  | (go_at_call 96;(refine (rform_any ⟨1,op,dst,nm,args,pos⟩ (.slice pa args.length ca) _ HOP.out (Nat.le_trans HF.out.dlen (by decide)) (Nat.le_trans HF.out.nlen (by decide)) (fun a ha=>nm_len HFM.out a ha) (HSL.out.below HB.out)).mono ?_);rintro e w1 ⟨rfl,hb1⟩;rw [HFM.out];have HX1:=hid (HX.out.bel hb1);have HB1:=hid (HB.out.trans (hb1.mono HB.out.size));clear hb1 n0 n1 n2 n3 n4 n5 n6;have m4:w1.cell? ⟨w.heap.size,4,none⟩=some (.slice pa args.length ca):=HX1.out.at 4 rfl)
  | (go_at_call 97;(refine (rargs_any args (.slice pa args.length ca) _ (HSL.out.below HB1.out) (by have:=HF.out.alen;omega) HNU.out).mono ?_);rintro e w2 ⟨v2,rfl,hg2,hbb⟩;rw [HM.out] at hg2;obtain ⟨p2,c2,hv2⟩:=hg2.slc;have hv2:v2=.slice p2 T.length c2:=hv2;subst hv2;have HX2:=hid (HX1.out.bel hbb);have HB2:=hid (HB1.out.trans (hbb.mono HB1.out.size));obtain ⟨k0,k1,k2,k3⟩:=HX2.out.p4;have HSA:=hid (hg2.sl (by have:=HTL.out;omega));clear hbb hg2 m4)
  | (go_at_call 98;(refine (ropname_any op (HF.out.opr rfl) _).mono ?_);rintro e w4 ⟨rfl,hb4⟩;have HX4:=hid (HX2.out.bel hb4);have HB4:=hid (HB2.out.trans (hb4.mono HB2.out.size));have HSB:=hid (HSA.out.below hb4);clear hb4 k0 k1 k2 k3;have l2:∀ o,(w4.alloc o).cell? ⟨w.heap.size,2,none⟩=some (.string ⟨dst.toArray⟩):=fun o=>(HX4.out.al o).at 2 rfl;have l20:w4.cell? ⟨w.heap.size,2,none⟩=some (.string ⟨dst.toArray⟩):=HX4.out.at 2 rfl)
  | (at_builtin;refine wpList_app (R:=(·<w4.heap.size)) _ rfl _ _ 22 rfl w.heap.size 9 _ 16 Tryz.underlying22 info_strG rfl _ 3 ([dst,[61],opT op].map sv) rfl (GA.litS w4 9 [dst,[61],opT op] (by simp) (by simp) HB4.out.size).strs _ _ _ (T.map sv) rfl (by rw [List.length_map]) (HSB.out.strs.2.2.2.keep fun k hk=>⟨hk,heap_al_lt hk⟩) (sv_one _) (by have:=HTL.out;omega) (by have:=HTL.out;unfold maxLen;omega) (by rw [sA];have:=HB4.out.size;omega) ?_;intro v5 w5 ho5 hg5 hv5;have HB5:=hid ((HB4.out.alloc HB4.out.size _).grown hg5 (by rw [sA];have:=HB4.out.size;omega) (own_ge (GA.litS w4 9 [dst,[61],opT op] (by simp) (by simp) HB4.out.size).strs));rw [<- List.map_append,HUD.out] at ho5;have HUL:=hid (show 3+T.length=U.length from by rw [<- HUD.out,List.length_append];rfl);rw [HUL.out] at ho5;have HG5:=hid (GA.ofStrs ho5);obtain ⟨p5,c5,rfl⟩:=HG5.out.slc;clear ho5 hg5 hv5)
  | (go_at_call 53;(refine (rjoin_any U _ _ _ (HG5.out.sl (by have:=HUL.out;have:=HTL.out;omega)) (by have:=HUL.out;have:=HTL.out;omega) HUS.out).mono ?_);rintro e w6 ⟨rfl,hb6⟩;have HB6:=hid (HB5.out.trans (hb6.mono HB5.out.size));clear hb6))
 go_ret2
 exact ⟨rfl,HB6.out⟩
theorem rinstr_2 (op:Nat) (dst nm:Bs) (a0:Ag) (pos:Int × Int) (v:Value) (w:World) (hop:op<=255) (hfm:formB ⟨2,op,dst,nm,[a0],pos⟩=true) (hn:∀ a ∈ [a0],a.num<18446744073709551616) (h:SlG kAg (·<w.heap.size) w v [a0]) :
  Calls Tryz.prog 63 #[.agg #[.int .u8 2,.int .u8 (op:Int),.string ⟨dst.toArray⟩,.string ⟨nm.toArray⟩,v,.int .i64 pos.1,.int .i64 pos.2]] w fun e w'=>e=.returned (.tuple #[.string ⟨(jn [dst,[61],wLoad,nm,argT a0]).toArray⟩,.int .i64 0])/\Below w.heap.size w w':=by
 have HF:=hid (form_s hfm hn)
 obtain ⟨pa,ca,hv⟩:=h.slc
 have hv:v=.slice pa 1 ca:=hv
 subst hv
 have HSL:=hid h;have HNU:=hid hn;have HOP:=hid hop
 obtain ⟨A0,hA0⟩:∃ A,argT a0=A:=⟨_,rfl⟩
 have HL0:=hid (show A0.length<=32 from by rw [<- hA0];exact HF.each a0 (by simp))
 have HM:=hid (show List.map argT [a0]=[A0] from by simp only [List.map_cons,List.map_nil,hA0])
 rw [hA0]
 clear hA0
 have HFM:=hid hfm
 clear h hn hop hfm
 go_enter Tryz.func63,Tryz.ntmps63
 go_upto_region 1 with fail
 obtain ⟨wo,hwo⟩:∃ W,w.alloc (.cells #[.int .u8 2,.int .u8 (op:Int),.string ⟨dst.toArray⟩,.string ⟨nm.toArray⟩,.slice pa 1 ca,.int .i64 pos.1,.int .i64 pos.2] 41)=W:=⟨_,rfl⟩
 have HX:=hid (show BxL 41 w.heap.size [.int .u8 2,.int .u8 (op:Int),.string ⟨dst.toArray⟩,.string ⟨nm.toArray⟩,.slice pa 1 ca,.int .i64 pos.1,.int .i64 pos.2] wo from by rw [<- hwo];exact BxL.new _ _ _)
 have HB:=hid (show Below w.heap.size w wo from by rw [<- hwo];exact bA)
 rw [hwo]
 clear hwo
 obtain ⟨n0,n1,n2,n3,n4,n5,n6⟩:=HX.p7
 go_upto_region 11 with (first
  | (go_at_call 96;(refine (rform_any ⟨2,op,dst,nm,[a0],pos⟩ (.slice pa 1 ca) _ HOP.out (Nat.le_trans HF.out.dlen (by decide)) (Nat.le_trans HF.out.nlen (by decide)) (fun a ha=>nm_len HFM.out a ha) (HSL.out.below HB.out)).mono ?_);rintro e w1 ⟨rfl,hb1⟩;rw [HFM.out];have HX1:=hid (HX.out.bel hb1);have HB1:=hid (HB.out.trans (hb1.mono HB.out.size));clear hb1 n0 n1 n2 n3 n4 n5 n6;have m4:w1.cell? ⟨w.heap.size,4,none⟩=some (.slice pa 1 ca):=HX1.out.at 4 rfl)
  | (go_at_call 97;(refine (rargs_any [a0] (.slice pa 1 ca) _ (HSL.out.below HB1.out) (by have:=HF.out.alen;omega) HNU.out).mono ?_);rintro e w2 ⟨v2,rfl,hg2,hbb⟩;rw [HM.out] at hg2;obtain ⟨p2,c2,hv2⟩:=hg2.slc;have hv2:v2=.slice p2 1 c2:=hv2;subst hv2;have HX2:=hid (HX1.out.bel hbb);have HB2:=hid (HB1.out.trans (hbb.mono HB1.out.size));obtain ⟨k0,k1,k2,k3⟩:=HX2.out.p4;obtain ⟨b2,o2,rfl,hb2,hc2⟩:=ga_one hg2;have HC2:=hid hc2;have HBB:=hid hb2;clear hb2;clear hbb hg2 m4))
 have HBD:=hid (show Below w.heap.size w w2.drew from HB2.trans ((Below.refl w2.heap.size w2).drew.mono HB2.size))
 have hS:(fun W=>W.cell? ⟨w.heap.size,2,none⟩=some (.string ⟨dst.toArray⟩)/\W.cell? ⟨w.heap.size,3,none⟩=some (.string ⟨nm.toArray⟩)/\W.cell? ⟨b2,o2,none⟩=some (.string ⟨A0.toArray⟩)) w2.drew:=⟨k2,k3,HC2.out⟩
 have hFa:=fT
 refine rgN (fun W=>W.cell? ⟨w.heap.size,2,none⟩=some (.string ⟨dst.toArray⟩)/\W.cell? ⟨w.heap.size,3,none⟩=some (.string ⟨nm.toArray⟩)/\W.cell? ⟨b2,o2,none⟩=some (.string ⟨A0.toArray⟩)) 7 (by kernel_rfl) ?_
 simp only [zP,Nat.reduceAdd]
 refine wpHJ_pure (v:=?v0) 0 hFa rfl (by kernel_rfl) nE (Or.inl ⟨by rfl,?y0⟩) (.inr hS) ?r0
 case y0=>(intro w' _;go_simp;try rfl)
 simp only [Act.put,List.getElem_toArray,List.getElem_cons_succ,List.getElem_cons_zero,List.setIfInBounds_toArray,List.set_cons_zero,List.set_cons_succ]
 refine wpHJ_take (v:=?v1) 1 hFa rfl (by kernel_rfl) nE (Or.inl ⟨by rfl,?y1⟩) hS ?r1
 case y1=>(rintro w' ⟨s0,s1,s2⟩;go_simp;try rfl)
 simp only [Act.put,List.getElem_toArray,List.getElem_cons_succ,List.getElem_cons_zero,List.setIfInBounds_toArray,List.set_cons_zero,List.set_cons_succ]
 refine wpHJ_pure (v:=?v2) 2 hFa rfl (by kernel_rfl) nE (Or.inl ⟨by rfl,?y2⟩) (.inr hS) ?r2
 case y2=>(intro w' _;go_simp;try rfl)
 simp only [Act.put,List.getElem_toArray,List.getElem_cons_succ,List.getElem_cons_zero,List.setIfInBounds_toArray,List.set_cons_zero,List.set_cons_succ]
 refine wpHJ_take (v:=?v3) 3 hFa rfl (by kernel_rfl) nE (Or.inl ⟨by rfl,?y3⟩) hS ?r3
 case y3=>(rintro w' ⟨s0,s1,s2⟩;go_simp;try rfl)
 simp only [Act.put,List.getElem_toArray,List.getElem_cons_succ,List.getElem_cons_zero,List.setIfInBounds_toArray,List.set_cons_zero,List.set_cons_succ]
 iterate 2 (refine npW (v:=?_) 11 (.inr hS) ?_ ?_;rotate_left;(focus intro w' _;go_simp;try rfl);simp only [aP])
 refine wpHJ_take (v:=?v5) 6 hFa rfl (by kernel_rfl) nE (Or.inl ⟨by rfl,?y5⟩) hS ?r5
 case y5=>(rintro w' ⟨s0,s1,s2⟩;go_simp;try rfl)
 simp only [Act.put,List.getElem_toArray,List.getElem_cons_succ,List.getElem_cons_zero,List.setIfInBounds_toArray,List.set_cons_zero,List.set_cons_succ]
 refine oy 7 fun K hK=>?_
 go_simp
 refine hK _ _ (.inl rfl) ?_
 clear hK K
 refine oy 8 fun K hK=>?_
 go_simp
 (refine (callsIn_wide.2 (rjoin_lit [dst,[61],wLoad,nm,A0] w2.drew (by simp) (by simp) (List.forall_mem_cons.2 ⟨HF.dlen,List.forall_mem_cons.2 ⟨by decide,List.forall_mem_cons.2 ⟨by decide,List.forall_mem_cons.2 ⟨HF.nlen,List.forall_mem_cons.2 ⟨HL0.out,List.forall_mem_nil _⟩⟩⟩⟩⟩))).mono ?_)
 rintro e w3 ⟨rfl,hb3⟩
 have HB3:=hid (HBD.trans (hb3.mono HBD.size))
 clear hb3
 refine hK _ _ (.inr (.inl rfl)) ?_
 clear hK K
 iterate 2 (refine npW (v:=?_) 11 (.inl rfl) ?_ ?_;rotate_left;(focus intro w' _;go_simp;try rfl);simp only [aP])
 refine wpHJ_done (by kernel_rfl) ?_ _
 simp only [onlyN,Exit.then]
 clear hFa
 clear hS
 go_wp2_with fail
 go_ret2
 exact ⟨rfl,HB3.out⟩
theorem rinstr_3 (op:Nat) (dst nm:Bs) (a0 a1:Ag) (pos:Int × Int) (v:Value) (w:World) (hop:op<=255) (hfm:formB ⟨3,op,dst,nm,[a0,a1],pos⟩=true) (hn:∀ a ∈ [a0,a1],a.num<18446744073709551616) (h:SlG kAg (·<w.heap.size) w v [a0,a1]) :
  Calls Tryz.prog 63 #[.agg #[.int .u8 3,.int .u8 (op:Int),.string ⟨dst.toArray⟩,.string ⟨nm.toArray⟩,v,.int .i64 pos.1,.int .i64 pos.2]] w fun e w'=>e=.returned (.tuple #[.string ⟨(jn [wStore,nm,argT a0,argT a1]).toArray⟩,.int .i64 0])/\Below w.heap.size w w':=by
 have HF:=hid (form_s hfm hn)
 obtain ⟨pa,ca,hv⟩:=h.slc
 have hv:v=.slice pa 2 ca:=hv
 subst hv
 have HSL:=hid h;have HNU:=hid hn;have HOP:=hid hop
 obtain ⟨A0,hA0⟩:∃ A,argT a0=A:=⟨_,rfl⟩
 have HL0:=hid (show A0.length<=32 from by rw [<- hA0];exact HF.each a0 (by simp))
 obtain ⟨A1,hA1⟩:∃ A,argT a1=A:=⟨_,rfl⟩
 have HL1:=hid (show A1.length<=32 from by rw [<- hA1];exact HF.each a1 (by simp))
 have HM:=hid (show List.map argT [a0,a1]=[A0,A1] from by simp only [List.map_cons,List.map_nil,hA0,hA1])
 rw [hA0,hA1]
 clear hA0 hA1
 have HFM:=hid hfm
 clear h hn hop hfm
 go_enter Tryz.func63,Tryz.ntmps63
 go_upto_region 1 with fail
 obtain ⟨wo,hwo⟩:∃ W,w.alloc (.cells #[.int .u8 3,.int .u8 (op:Int),.string ⟨dst.toArray⟩,.string ⟨nm.toArray⟩,.slice pa 2 ca,.int .i64 pos.1,.int .i64 pos.2] 41)=W:=⟨_,rfl⟩
 have HX:=hid (show BxL 41 w.heap.size [.int .u8 3,.int .u8 (op:Int),.string ⟨dst.toArray⟩,.string ⟨nm.toArray⟩,.slice pa 2 ca,.int .i64 pos.1,.int .i64 pos.2] wo from by rw [<- hwo];exact BxL.new _ _ _)
 have HB:=hid (show Below w.heap.size w wo from by rw [<- hwo];exact bA)
 rw [hwo]
 clear hwo
 obtain ⟨n0,n1,n2,n3,n4,n5,n6⟩:=HX.p7
 go_upto_region 13 with (first
  | (go_at_call 96;(refine (rform_any ⟨3,op,dst,nm,[a0,a1],pos⟩ (.slice pa 2 ca) _ HOP.out (Nat.le_trans HF.out.dlen (by decide)) (Nat.le_trans HF.out.nlen (by decide)) (fun a ha=>nm_len HFM.out a ha) (HSL.out.below HB.out)).mono ?_);rintro e w1 ⟨rfl,hb1⟩;rw [HFM.out];have HX1:=hid (HX.out.bel hb1);have HB1:=hid (HB.out.trans (hb1.mono HB.out.size));clear hb1 n0 n1 n2 n3 n4 n5 n6;have m4:w1.cell? ⟨w.heap.size,4,none⟩=some (.slice pa 2 ca):=HX1.out.at 4 rfl)
  | (go_at_call 97;(refine (rargs_any [a0,a1] (.slice pa 2 ca) _ (HSL.out.below HB1.out) (by have:=HF.out.alen;omega) HNU.out).mono ?_);rintro e w2 ⟨v2,rfl,hg2,hbb⟩;rw [HM.out] at hg2;obtain ⟨p2,c2,hv2⟩:=hg2.slc;have hv2:v2=.slice p2 2 c2:=hv2;subst hv2;have HX2:=hid (HX1.out.bel hbb);have HB2:=hid (HB1.out.trans (hbb.mono HB1.out.size));obtain ⟨k0,k1,k2,k3⟩:=HX2.out.p4;obtain ⟨b2,o2,rfl,hb2,hc2,hd2⟩:=ga_two hg2;have HC2:=hid hc2;have HD2:=hid hd2;have HBB:=hid hb2;clear hb2;clear hbb hg2 m4))
 have HBD:=hid (show Below w.heap.size w w2.drew from HB2.trans ((Below.refl w2.heap.size w2).drew.mono HB2.size))
 have hS:(fun W=>W.cell? ⟨w.heap.size,2,none⟩=some (.string ⟨dst.toArray⟩)/\W.cell? ⟨w.heap.size,3,none⟩=some (.string ⟨nm.toArray⟩)/\W.cell? ⟨b2,o2,none⟩=some (.string ⟨A0.toArray⟩)/\W.cell? ⟨b2,o2+1,none⟩=some (.string ⟨A1.toArray⟩)) w2.drew:=⟨k2,k3,HC2.out,HD2.out⟩
 have hFa:=fT
 refine rgN (fun W=>W.cell? ⟨w.heap.size,2,none⟩=some (.string ⟨dst.toArray⟩)/\W.cell? ⟨w.heap.size,3,none⟩=some (.string ⟨nm.toArray⟩)/\W.cell? ⟨b2,o2,none⟩=some (.string ⟨A0.toArray⟩)/\W.cell? ⟨b2,o2+1,none⟩=some (.string ⟨A1.toArray⟩)) 8 (by kernel_rfl) ?_
 simp only [zP,Nat.reduceAdd]
 refine wpHJ_pure (v:=?v0) 0 hFa rfl (by kernel_rfl) nE (Or.inl ⟨by rfl,?y0⟩) (.inr hS) ?r0
 case y0=>(intro w' _;go_simp;try rfl)
 simp only [Act.put,List.getElem_toArray,List.getElem_cons_succ,List.getElem_cons_zero,List.setIfInBounds_toArray,List.set_cons_zero,List.set_cons_succ]
 refine wpHJ_take (v:=?v1) 1 hFa rfl (by kernel_rfl) nE (Or.inl ⟨by rfl,?y1⟩) hS ?r1
 case y1=>(rintro w' ⟨s0,s1,s2,s3⟩;go_simp;try rfl)
 simp only [Act.put,List.getElem_toArray,List.getElem_cons_succ,List.getElem_cons_zero,List.setIfInBounds_toArray,List.set_cons_zero,List.set_cons_succ]
 iterate 2 (refine npW (v:=?_) 12 (.inr hS) ?_ ?_;rotate_left;(focus intro w' _;go_simp;try rfl);simp only [aP])
 refine wpHJ_take (v:=?v4) 4 hFa rfl (by kernel_rfl) nE (Or.inl ⟨by rfl,?y4⟩) hS ?r4
 case y4=>(rintro w' ⟨s0,s1,s2,s3⟩;go_simp;try rfl)
 simp only [Act.put,List.getElem_toArray,List.getElem_cons_succ,List.getElem_cons_zero,List.setIfInBounds_toArray,List.set_cons_zero,List.set_cons_succ]
 iterate 2 (refine npW (v:=?_) 12 (.inr hS) ?_ ?_;rotate_left;(focus intro w' _;go_simp;try rfl);simp only [aP])
 refine wpHJ_take (v:=?v6) 7 hFa rfl (by kernel_rfl) nE (Or.inl ⟨by rfl,?y6⟩) hS ?r6
 case y6=>(rintro w' ⟨s0,s1,s2,s3⟩;go_simp;try rfl)
 simp only [Act.put,List.getElem_toArray,List.getElem_cons_succ,List.getElem_cons_zero,List.setIfInBounds_toArray,List.set_cons_zero,List.set_cons_succ]
 refine oy 8 fun K hK=>?_
 go_simp
 refine hK _ _ (.inl rfl) ?_
 clear hK K
 refine oy 9 fun K hK=>?_
 go_simp
 (refine (callsIn_wide.2 (rjoin_lit [wStore,nm,A0,A1] w2.drew (by simp) (by simp) (List.forall_mem_cons.2 ⟨by decide,List.forall_mem_cons.2 ⟨HF.nlen,List.forall_mem_cons.2 ⟨HL0.out,List.forall_mem_cons.2 ⟨HL1.out,List.forall_mem_nil _⟩⟩⟩⟩))).mono ?_)
 rintro e w3 ⟨rfl,hb3⟩
 have HB3:=hid (HBD.trans (hb3.mono HBD.size))
 clear hb3
 refine hK _ _ (.inr (.inl rfl)) ?_
 clear hK K
 iterate 2 (refine npW (v:=?_) 12 (.inl rfl) ?_ ?_;rotate_left;(focus intro w' _;go_simp;try rfl);simp only [aP])
 refine wpHJ_done (by kernel_rfl) ?_ _
 simp only [onlyN,Exit.then]
 clear hFa
 clear hS
 go_wp2_with fail
 go_ret2
 exact ⟨rfl,HB3.out⟩
theorem rinstr_4 (op:Nat) (dst nm:Bs) (args:List Ag) (pos:Int × Int) (v:Value) (w:World) (hop:op<=255) (hfm:formB ⟨4,op,dst,nm,args,pos⟩=true) (hn:∀ a ∈ args,a.num<18446744073709551616) (h:SlG kAg (·<w.heap.size) w v args) :
  Calls Tryz.prog 63 #[.agg #[.int .u8 4,.int .u8 (op:Int),.string ⟨dst.toArray⟩,.string ⟨nm.toArray⟩,v,.int .i64 pos.1,.int .i64 pos.2]] w fun e w'=>e=.returned (.tuple #[.string ⟨(jn ([dst,[61],wCall,nm]++args.map argT)).toArray⟩,.int .i64 0])/\Below w.heap.size w w':=by
 have HF:=hid (form_s hfm hn)
 obtain ⟨pa,ca,hv⟩:=h.slc
 have hv:v=.slice pa args.length ca:=hv
 subst hv
 have HSL:=hid h;have HNU:=hid hn;have HOP:=hid hop
 obtain ⟨T,hT⟩:∃ T,args.map argT=T:=⟨_,rfl⟩
 have HTL:=hid (show T.length<=32 from by rw [<- hT,List.length_map];exact HF.alen)
 have HTS:=hid (show ∀ s ∈ T,s.length<=32 from by rw [<- hT];intro s hs;obtain ⟨a,ha,rfl⟩:=List.mem_map.1 hs;exact HF.each a ha)
 have HM:=hid hT
 rw [hT]
 obtain ⟨U,hU⟩:∃ U,[dst,[61],wCall,nm]++T=U:=⟨_,rfl⟩
 have HUD:=hid hU
 have HUS:Hid (∀ s ∈ U,s.length<=1000):=by
  rw [<- hU];intro s hs
  rcases List.mem_append.1 hs with hs | hs
  ·exact Nat.le_trans ((show ∀ s ∈ [dst,[61],wCall,nm],s.length<=32 from List.forall_mem_cons.2 ⟨HF.dlen,List.forall_mem_cons.2 ⟨by decide,List.forall_mem_cons.2 ⟨by decide,List.forall_mem_cons.2 ⟨HF.nlen,List.forall_mem_nil _⟩⟩⟩⟩) s hs) (by omega)
  ·exact Nat.le_trans (HTS.out s hs) (by omega)
 rw [hU]
 clear hT hU
 have HFM:=hid hfm
 clear h hn hop hfm
 go_enter Tryz.func63,Tryz.ntmps63
 go_upto_region 1 with fail
 obtain ⟨wo,hwo⟩:∃ W,w.alloc (.cells #[.int .u8 4,.int .u8 (op:Int),.string ⟨dst.toArray⟩,.string ⟨nm.toArray⟩,.slice pa args.length ca,.int .i64 pos.1,.int .i64 pos.2] 41)=W:=⟨_,rfl⟩
 have HX:=hid (show BxL 41 w.heap.size [.int .u8 4,.int .u8 (op:Int),.string ⟨dst.toArray⟩,.string ⟨nm.toArray⟩,.slice pa args.length ca,.int .i64 pos.1,.int .i64 pos.2] wo from by rw [<- hwo];exact BxL.new _ _ _)
 have HB:=hid (show Below w.heap.size w wo from by rw [<- hwo];exact bA)
 rw [hwo]
 clear hwo
 obtain ⟨n0,n1,n2,n3,n4,n5,n6⟩:=HX.p7
 go_wp2_with (first
  | (go_at_call 96;(refine (rform_any ⟨4,op,dst,nm,args,pos⟩ (.slice pa args.length ca) _ HOP.out (Nat.le_trans HF.out.dlen (by decide)) (Nat.le_trans HF.out.nlen (by decide)) (fun a ha=>nm_len HFM.out a ha) (HSL.out.below HB.out)).mono ?_);rintro e w1 ⟨rfl,hb1⟩;rw [HFM.out];have HX1:=hid (HX.out.bel hb1);have HB1:=hid (HB.out.trans (hb1.mono HB.out.size));clear hb1 n0 n1 n2 n3 n4 n5 n6;have m4:w1.cell? ⟨w.heap.size,4,none⟩=some (.slice pa args.length ca):=HX1.out.at 4 rfl)
  | (go_at_call 97;(refine (rargs_any args (.slice pa args.length ca) _ (HSL.out.below HB1.out) (by have:=HF.out.alen;omega) HNU.out).mono ?_);rintro e w2 ⟨v2,rfl,hg2,hbb⟩;rw [HM.out] at hg2;obtain ⟨p2,c2,hv2⟩:=hg2.slc;have hv2:v2=.slice p2 T.length c2:=hv2;subst hv2;have HX2:=hid (HX1.out.bel hbb);have HB2:=hid (HB1.out.trans (hbb.mono HB1.out.size));obtain ⟨k0,k1,k2,k3⟩:=HX2.out.p4;have HSA:=hid (hg2.sl (by have:=HTL.out;omega));clear hbb hg2 m4)
  | (at_builtin;refine wpList_app (R:=(·<w2.heap.size)) _ rfl _ _ 22 rfl w.heap.size 9 _ 16 Tryz.underlying22 info_strG rfl _ 4 ([dst,[61],wCall,nm].map sv) rfl (GA.litS w2 9 [dst,[61],wCall,nm] (by simp) (by simp) HB2.out.size).strs _ _ _ (T.map sv) rfl (by rw [List.length_map]) (HSA.out.strs.2.2.2.keep fun k hk=>⟨hk,heap_al_lt hk⟩) (sv_one _) (by have:=HTL.out;omega) (by have:=HTL.out;unfold maxLen;omega) (by rw [sA];have:=HB2.out.size;omega) ?_;intro v5 w5 ho5 hg5 hv5;have HB5:=hid ((HB2.out.alloc HB2.out.size _).grown hg5 (by rw [sA];have:=HB2.out.size;omega) (own_ge (GA.litS w2 9 [dst,[61],wCall,nm] (by simp) (by simp) HB2.out.size).strs));rw [<- List.map_append,HUD.out] at ho5;have HUL:=hid (show 4+T.length=U.length from by rw [<- HUD.out,List.length_append];rfl);rw [HUL.out] at ho5;have HG5:=hid (GA.ofStrs ho5);obtain ⟨p5,c5,rfl⟩:=HG5.out.slc;clear ho5 hg5 hv5)
  | (go_at_call 53;(refine (rjoin_any U _ _ _ (HG5.out.sl (by have:=HUL.out;have:=HTL.out;omega)) (by have:=HUL.out;have:=HTL.out;omega) HUS.out).mono ?_);rintro e w6 ⟨rfl,hb6⟩;have HB6:=hid (HB5.out.trans (hb6.mono HB5.out.size));clear hb6))
 go_ret2
 exact ⟨rfl,HB6.out⟩
theorem rinstr_5 (op:Nat) (dst nm:Bs) (pos:Int × Int) (v:Value) (w:World) (hop:op<=255) (hfm:formB ⟨5,op,dst,nm,([]:List Ag),pos⟩=true) (hn:∀ a ∈ ([]:List Ag),a.num<18446744073709551616) (h:SlG kAg (·<w.heap.size) w v ([]:List Ag)) :
  Calls Tryz.prog 63 #[.agg #[.int .u8 5,.int .u8 (op:Int),.string ⟨dst.toArray⟩,.string ⟨nm.toArray⟩,v,.int .i64 pos.1,.int .i64 pos.2]] w fun e w'=>e=.returned (.tuple #[.string ⟨(jn [wIn,dst,nm]).toArray⟩,.int .i64 0])/\Below w.heap.size w w':=by
 have HF:=hid (form_s hfm hn)
 obtain ⟨pa,ca,hv⟩:=h.slc
 have hv:v=.slice pa 0 ca:=hv
 subst hv
 have HSL:=hid h;have HNU:=hid hn;have HOP:=hid hop
 have HFM:=hid hfm
 clear h hn hop hfm
 go_enter Tryz.func63,Tryz.ntmps63
 go_upto_region 1 with fail
 obtain ⟨wo,hwo⟩:∃ W,w.alloc (.cells #[.int .u8 5,.int .u8 (op:Int),.string ⟨dst.toArray⟩,.string ⟨nm.toArray⟩,.slice pa 0 ca,.int .i64 pos.1,.int .i64 pos.2] 41)=W:=⟨_,rfl⟩
 have HX:=hid (show BxL 41 w.heap.size [.int .u8 5,.int .u8 (op:Int),.string ⟨dst.toArray⟩,.string ⟨nm.toArray⟩,.slice pa 0 ca,.int .i64 pos.1,.int .i64 pos.2] wo from by rw [<- hwo];exact BxL.new _ _ _)
 have HB:=hid (show Below w.heap.size w wo from by rw [<- hwo];exact bA)
 rw [hwo]
 clear hwo
 obtain ⟨n0,n1,n2,n3,n4,n5,n6⟩:=HX.p7
 go_wp2_with (first
  | (go_at_call 96;(refine (rform_any ⟨5,op,dst,nm,([]:List Ag),pos⟩ (.slice pa 0 ca) _ HOP.out (Nat.le_trans HF.out.dlen (by decide)) (Nat.le_trans HF.out.nlen (by decide)) (fun a ha=>nm_len HFM.out a ha) (HSL.out.below HB.out)).mono ?_);rintro e w1 ⟨rfl,hb1⟩;rw [HFM.out];have HX1:=hid (HX.out.bel hb1);have HB1:=hid (HB.out.trans (hb1.mono HB.out.size));clear hb1 n0 n1 n2 n3 n4 n5 n6;have m4:w1.cell? ⟨w.heap.size,4,none⟩=some (.slice pa 0 ca):=HX1.out.at 4 rfl)
  | (go_at_call 97;(refine (rargs_any ([]:List Ag) (.slice pa 0 ca) _ (HSL.out.below HB1.out) (by have:=HF.out.alen;omega) HNU.out).mono ?_);rintro e w2 ⟨v2,rfl,hg2,hbb⟩;obtain ⟨p2,c2,hv2⟩:=hg2.slc;have hv2:v2=.slice p2 0 c2:=hv2;subst hv2;have HX2:=hid (HX1.out.bel hbb);have HB2:=hid (HB1.out.trans (hbb.mono HB1.out.size));obtain ⟨k0,k1,k2,k3⟩:=HX2.out.p4;clear hbb hg2 m4)
  | (go_at_call 53;(refine (rjoin_lit [wIn,dst,nm] w2 (by simp) (by simp) (List.forall_mem_cons.2 ⟨by decide,List.forall_mem_cons.2 ⟨HF.out.dlen,List.forall_mem_cons.2 ⟨HF.out.nlen,List.forall_mem_nil _⟩⟩⟩)).mono ?_);rintro e w3 ⟨rfl,hb3⟩;have HB3:=hid (HB2.out.trans (hb3.mono HB2.out.size));clear hb3))
 go_ret2
 exact ⟨rfl,HB3.out⟩
theorem rinstr_6 (op:Nat) (dst nm:Bs) (a0:Ag) (pos:Int × Int) (v:Value) (w:World) (hop:op<=255) (hfm:formB ⟨6,op,dst,nm,[a0],pos⟩=true) (hn:∀ a ∈ [a0],a.num<18446744073709551616) (h:SlG kAg (·<w.heap.size) w v [a0]) :
  Calls Tryz.prog 63 #[.agg #[.int .u8 6,.int .u8 (op:Int),.string ⟨dst.toArray⟩,.string ⟨nm.toArray⟩,v,.int .i64 pos.1,.int .i64 pos.2]] w fun e w'=>e=.returned (.tuple #[.string ⟨(jn [wOut,nm,argT a0]).toArray⟩,.int .i64 0])/\Below w.heap.size w w':=by
 have HF:=hid (form_s hfm hn)
 obtain ⟨pa,ca,hv⟩:=h.slc
 have hv:v=.slice pa 1 ca:=hv
 subst hv
 have HSL:=hid h;have HNU:=hid hn;have HOP:=hid hop
 obtain ⟨A0,hA0⟩:∃ A,argT a0=A:=⟨_,rfl⟩
 have HL0:=hid (show A0.length<=32 from by rw [<- hA0];exact HF.each a0 (by simp))
 have HM:=hid (show List.map argT [a0]=[A0] from by simp only [List.map_cons,List.map_nil,hA0])
 rw [hA0]
 clear hA0
 have HFM:=hid hfm
 clear h hn hop hfm
 go_enter Tryz.func63,Tryz.ntmps63
 go_upto_region 1 with fail
 obtain ⟨wo,hwo⟩:∃ W,w.alloc (.cells #[.int .u8 6,.int .u8 (op:Int),.string ⟨dst.toArray⟩,.string ⟨nm.toArray⟩,.slice pa 1 ca,.int .i64 pos.1,.int .i64 pos.2] 41)=W:=⟨_,rfl⟩
 have HX:=hid (show BxL 41 w.heap.size [.int .u8 6,.int .u8 (op:Int),.string ⟨dst.toArray⟩,.string ⟨nm.toArray⟩,.slice pa 1 ca,.int .i64 pos.1,.int .i64 pos.2] wo from by rw [<- hwo];exact BxL.new _ _ _)
 have HB:=hid (show Below w.heap.size w wo from by rw [<- hwo];exact bA)
 rw [hwo]
 clear hwo
 obtain ⟨n0,n1,n2,n3,n4,n5,n6⟩:=HX.p7
 go_upto_region 19 with (first
  | (go_at_call 96;(refine (rform_any ⟨6,op,dst,nm,[a0],pos⟩ (.slice pa 1 ca) _ HOP.out (Nat.le_trans HF.out.dlen (by decide)) (Nat.le_trans HF.out.nlen (by decide)) (fun a ha=>nm_len HFM.out a ha) (HSL.out.below HB.out)).mono ?_);rintro e w1 ⟨rfl,hb1⟩;rw [HFM.out];have HX1:=hid (HX.out.bel hb1);have HB1:=hid (HB.out.trans (hb1.mono HB.out.size));clear hb1 n0 n1 n2 n3 n4 n5 n6;have m4:w1.cell? ⟨w.heap.size,4,none⟩=some (.slice pa 1 ca):=HX1.out.at 4 rfl)
  | (go_at_call 97;(refine (rargs_any [a0] (.slice pa 1 ca) _ (HSL.out.below HB1.out) (by have:=HF.out.alen;omega) HNU.out).mono ?_);rintro e w2 ⟨v2,rfl,hg2,hbb⟩;rw [HM.out] at hg2;obtain ⟨p2,c2,hv2⟩:=hg2.slc;have hv2:v2=.slice p2 1 c2:=hv2;subst hv2;have HX2:=hid (HX1.out.bel hbb);have HB2:=hid (HB1.out.trans (hbb.mono HB1.out.size));obtain ⟨k0,k1,k2,k3⟩:=HX2.out.p4;obtain ⟨b2,o2,rfl,hb2,hc2⟩:=ga_one hg2;have HC2:=hid hc2;have HBB:=hid hb2;clear hb2;clear hbb hg2 m4))
 have HBD:=hid (show Below w.heap.size w w2.drew from HB2.trans ((Below.refl w2.heap.size w2).drew.mono HB2.size))
 have hS:(fun W=>W.cell? ⟨w.heap.size,2,none⟩=some (.string ⟨dst.toArray⟩)/\W.cell? ⟨w.heap.size,3,none⟩=some (.string ⟨nm.toArray⟩)/\W.cell? ⟨b2,o2,none⟩=some (.string ⟨A0.toArray⟩)) w2.drew:=⟨k2,k3,HC2.out⟩
 have hFa:=fT
 refine rgN (fun W=>W.cell? ⟨w.heap.size,2,none⟩=some (.string ⟨dst.toArray⟩)/\W.cell? ⟨w.heap.size,3,none⟩=some (.string ⟨nm.toArray⟩)/\W.cell? ⟨b2,o2,none⟩=some (.string ⟨A0.toArray⟩)) 5 (by kernel_rfl) ?_
 simp only [zP,Nat.reduceAdd]
 refine wpHJ_pure (v:=?v0) 0 hFa rfl (by kernel_rfl) nE (Or.inl ⟨by rfl,?y0⟩) (.inr hS) ?r0
 case y0=>(intro w' _;go_simp;try rfl)
 simp only [Act.put,List.getElem_toArray,List.getElem_cons_succ,List.getElem_cons_zero,List.setIfInBounds_toArray,List.set_cons_zero,List.set_cons_succ]
 refine wpHJ_take (v:=?v1) 1 hFa rfl (by kernel_rfl) nE (Or.inl ⟨by rfl,?y1⟩) hS ?r1
 case y1=>(rintro w' ⟨s0,s1,s2⟩;go_simp;try rfl)
 simp only [Act.put,List.getElem_toArray,List.getElem_cons_succ,List.getElem_cons_zero,List.setIfInBounds_toArray,List.set_cons_zero,List.set_cons_succ]
 iterate 2 (refine npW (v:=?_) 9 (.inr hS) ?_ ?_;rotate_left;(focus intro w' _;go_simp;try rfl);simp only [aP])
 refine wpHJ_take (v:=?v4) 4 hFa rfl (by kernel_rfl) nE (Or.inl ⟨by rfl,?y4⟩) hS ?r4
 case y4=>(rintro w' ⟨s0,s1,s2⟩;go_simp;try rfl)
 simp only [Act.put,List.getElem_toArray,List.getElem_cons_succ,List.getElem_cons_zero,List.setIfInBounds_toArray,List.set_cons_zero,List.set_cons_succ]
 refine oy 5 fun K hK=>?_
 go_simp
 refine hK _ _ (.inl rfl) ?_
 clear hK K
 refine oy 6 fun K hK=>?_
 go_simp
 (refine (callsIn_wide.2 (rjoin_lit [wOut,nm,A0] w2.drew (by simp) (by simp) (List.forall_mem_cons.2 ⟨by decide,List.forall_mem_cons.2 ⟨HF.nlen,List.forall_mem_cons.2 ⟨HL0.out,List.forall_mem_nil _⟩⟩⟩))).mono ?_)
 rintro e w3 ⟨rfl,hb3⟩
 have HB3:=hid (HBD.trans (hb3.mono HBD.size))
 clear hb3
 refine hK _ _ (.inr (.inl rfl)) ?_
 clear hK K
 iterate 2 (refine npW (v:=?_) 9 (.inl rfl) ?_ ?_;rotate_left;(focus intro w' _;go_simp;try rfl);simp only [aP])
 refine wpHJ_done (by kernel_rfl) ?_ _
 simp only [onlyN,Exit.then]
 clear hFa
 clear hS
 go_wp2_with fail
 go_ret2
 exact ⟨rfl,HB3.out⟩
theorem rinstr_7 (op:Nat) (dst nm:Bs) (a0:Ag) (pos:Int × Int) (v:Value) (w:World) (hop:op<=255) (hfm:formB ⟨7,op,dst,nm,[a0],pos⟩=true) (hn:∀ a ∈ [a0],a.num<18446744073709551616) (h:SlG kAg (·<w.heap.size) w v [a0]) :
  Calls Tryz.prog 63 #[.agg #[.int .u8 7,.int .u8 (op:Int),.string ⟨dst.toArray⟩,.string ⟨nm.toArray⟩,v,.int .i64 pos.1,.int .i64 pos.2]] w fun e w'=>e=.returned (.tuple #[.string ⟨(jn [dst,[61],wRelease,nm,argT a0]).toArray⟩,.int .i64 0])/\Below w.heap.size w w':=by
 have HF:=hid (form_s hfm hn)
 obtain ⟨pa,ca,hv⟩:=h.slc
 have hv:v=.slice pa 1 ca:=hv
 subst hv
 have HSL:=hid h;have HNU:=hid hn;have HOP:=hid hop
 obtain ⟨A0,hA0⟩:∃ A,argT a0=A:=⟨_,rfl⟩
 have HL0:=hid (show A0.length<=32 from by rw [<- hA0];exact HF.each a0 (by simp))
 have HM:=hid (show List.map argT [a0]=[A0] from by simp only [List.map_cons,List.map_nil,hA0])
 rw [hA0]
 clear hA0
 have HFM:=hid hfm
 clear h hn hop hfm
 go_enter Tryz.func63,Tryz.ntmps63
 go_upto_region 1 with fail
 obtain ⟨wo,hwo⟩:∃ W,w.alloc (.cells #[.int .u8 7,.int .u8 (op:Int),.string ⟨dst.toArray⟩,.string ⟨nm.toArray⟩,.slice pa 1 ca,.int .i64 pos.1,.int .i64 pos.2] 41)=W:=⟨_,rfl⟩
 have HX:=hid (show BxL 41 w.heap.size [.int .u8 7,.int .u8 (op:Int),.string ⟨dst.toArray⟩,.string ⟨nm.toArray⟩,.slice pa 1 ca,.int .i64 pos.1,.int .i64 pos.2] wo from by rw [<- hwo];exact BxL.new _ _ _)
 have HB:=hid (show Below w.heap.size w wo from by rw [<- hwo];exact bA)
 rw [hwo]
 clear hwo
 obtain ⟨n0,n1,n2,n3,n4,n5,n6⟩:=HX.p7
 go_upto_region 21 with (first
  | (go_at_call 96;(refine (rform_any ⟨7,op,dst,nm,[a0],pos⟩ (.slice pa 1 ca) _ HOP.out (Nat.le_trans HF.out.dlen (by decide)) (Nat.le_trans HF.out.nlen (by decide)) (fun a ha=>nm_len HFM.out a ha) (HSL.out.below HB.out)).mono ?_);rintro e w1 ⟨rfl,hb1⟩;rw [HFM.out];have HX1:=hid (HX.out.bel hb1);have HB1:=hid (HB.out.trans (hb1.mono HB.out.size));clear hb1 n0 n1 n2 n3 n4 n5 n6;have m4:w1.cell? ⟨w.heap.size,4,none⟩=some (.slice pa 1 ca):=HX1.out.at 4 rfl)
  | (go_at_call 97;(refine (rargs_any [a0] (.slice pa 1 ca) _ (HSL.out.below HB1.out) (by have:=HF.out.alen;omega) HNU.out).mono ?_);rintro e w2 ⟨v2,rfl,hg2,hbb⟩;rw [HM.out] at hg2;obtain ⟨p2,c2,hv2⟩:=hg2.slc;have hv2:v2=.slice p2 1 c2:=hv2;subst hv2;have HX2:=hid (HX1.out.bel hbb);have HB2:=hid (HB1.out.trans (hbb.mono HB1.out.size));obtain ⟨k0,k1,k2,k3⟩:=HX2.out.p4;obtain ⟨b2,o2,rfl,hb2,hc2⟩:=ga_one hg2;have HC2:=hid hc2;have HBB:=hid hb2;clear hb2;clear hbb hg2 m4))
 have HBD:=hid (show Below w.heap.size w w2.drew from HB2.trans ((Below.refl w2.heap.size w2).drew.mono HB2.size))
 have hS:(fun W=>W.cell? ⟨w.heap.size,2,none⟩=some (.string ⟨dst.toArray⟩)/\W.cell? ⟨w.heap.size,3,none⟩=some (.string ⟨nm.toArray⟩)/\W.cell? ⟨b2,o2,none⟩=some (.string ⟨A0.toArray⟩)) w2.drew:=⟨k2,k3,HC2.out⟩
 have hFa:=fT
 refine rgN (fun W=>W.cell? ⟨w.heap.size,2,none⟩=some (.string ⟨dst.toArray⟩)/\W.cell? ⟨w.heap.size,3,none⟩=some (.string ⟨nm.toArray⟩)/\W.cell? ⟨b2,o2,none⟩=some (.string ⟨A0.toArray⟩)) 7 (by kernel_rfl) ?_
 simp only [zP,Nat.reduceAdd]
 refine wpHJ_pure (v:=?v0) 0 hFa rfl (by kernel_rfl) nE (Or.inl ⟨by rfl,?y0⟩) (.inr hS) ?r0
 case y0=>(intro w' _;go_simp;try rfl)
 simp only [Act.put,List.getElem_toArray,List.getElem_cons_succ,List.getElem_cons_zero,List.setIfInBounds_toArray,List.set_cons_zero,List.set_cons_succ]
 refine wpHJ_take (v:=?v1) 1 hFa rfl (by kernel_rfl) nE (Or.inl ⟨by rfl,?y1⟩) hS ?r1
 case y1=>(rintro w' ⟨s0,s1,s2⟩;go_simp;try rfl)
 simp only [Act.put,List.getElem_toArray,List.getElem_cons_succ,List.getElem_cons_zero,List.setIfInBounds_toArray,List.set_cons_zero,List.set_cons_succ]
 refine wpHJ_pure (v:=?v2) 2 hFa rfl (by kernel_rfl) nE (Or.inl ⟨by rfl,?y2⟩) (.inr hS) ?r2
 case y2=>(intro w' _;go_simp;try rfl)
 simp only [Act.put,List.getElem_toArray,List.getElem_cons_succ,List.getElem_cons_zero,List.setIfInBounds_toArray,List.set_cons_zero,List.set_cons_succ]
 refine wpHJ_take (v:=?v3) 3 hFa rfl (by kernel_rfl) nE (Or.inl ⟨by rfl,?y3⟩) hS ?r3
 case y3=>(rintro w' ⟨s0,s1,s2⟩;go_simp;try rfl)
 simp only [Act.put,List.getElem_toArray,List.getElem_cons_succ,List.getElem_cons_zero,List.setIfInBounds_toArray,List.set_cons_zero,List.set_cons_succ]
 iterate 2 (refine npW (v:=?_) 11 (.inr hS) ?_ ?_;rotate_left;(focus intro w' _;go_simp;try rfl);simp only [aP])
 refine wpHJ_take (v:=?v5) 6 hFa rfl (by kernel_rfl) nE (Or.inl ⟨by rfl,?y5⟩) hS ?r5
 case y5=>(rintro w' ⟨s0,s1,s2⟩;go_simp;try rfl)
 simp only [Act.put,List.getElem_toArray,List.getElem_cons_succ,List.getElem_cons_zero,List.setIfInBounds_toArray,List.set_cons_zero,List.set_cons_succ]
 refine oy 7 fun K hK=>?_
 go_simp
 refine hK _ _ (.inl rfl) ?_
 clear hK K
 refine oy 8 fun K hK=>?_
 go_simp
 (refine (callsIn_wide.2 (rjoin_lit [dst,[61],wRelease,nm,A0] w2.drew (by simp) (by simp) (List.forall_mem_cons.2 ⟨HF.dlen,List.forall_mem_cons.2 ⟨by decide,List.forall_mem_cons.2 ⟨by decide,List.forall_mem_cons.2 ⟨HF.nlen,List.forall_mem_cons.2 ⟨HL0.out,List.forall_mem_nil _⟩⟩⟩⟩⟩))).mono ?_)
 rintro e w3 ⟨rfl,hb3⟩
 have HB3:=hid (HBD.trans (hb3.mono HBD.size))
 clear hb3
 refine hK _ _ (.inr (.inl rfl)) ?_
 clear hK K
 iterate 2 (refine npW (v:=?_) 11 (.inl rfl) ?_ ?_;rotate_left;(focus intro w' _;go_simp;try rfl);simp only [aP])
 refine wpHJ_done (by kernel_rfl) ?_ _
 simp only [onlyN,Exit.then]
 clear hFa
 clear hS
 go_wp2_with fail
 go_ret2
 exact ⟨rfl,HB3.out⟩
theorem rinstr_8 (op:Nat) (dst nm:Bs) (pos:Int × Int) (v:Value) (w:World) (hop:op<=255) (hfm:formB ⟨8,op,dst,nm,([]:List Ag),pos⟩=true) (hn:∀ a ∈ ([]:List Ag),a.num<18446744073709551616) (h:SlG kAg (·<w.heap.size) w v ([]:List Ag)) :
  Calls Tryz.prog 63 #[.agg #[.int .u8 8,.int .u8 (op:Int),.string ⟨dst.toArray⟩,.string ⟨nm.toArray⟩,v,.int .i64 pos.1,.int .i64 pos.2]] w fun e w'=>e=.returned (.tuple #[.string ⟨(jn [wJump,nm]).toArray⟩,.int .i64 0])/\Below w.heap.size w w':=by
 have HF:=hid (form_s hfm hn)
 obtain ⟨pa,ca,hv⟩:=h.slc
 have hv:v=.slice pa 0 ca:=hv
 subst hv
 have HSL:=hid h;have HNU:=hid hn;have HOP:=hid hop
 have HFM:=hid hfm
 clear h hn hop hfm
 go_enter Tryz.func63,Tryz.ntmps63
 go_upto_region 1 with fail
 obtain ⟨wo,hwo⟩:∃ W,w.alloc (.cells #[.int .u8 8,.int .u8 (op:Int),.string ⟨dst.toArray⟩,.string ⟨nm.toArray⟩,.slice pa 0 ca,.int .i64 pos.1,.int .i64 pos.2] 41)=W:=⟨_,rfl⟩
 have HX:=hid (show BxL 41 w.heap.size [.int .u8 8,.int .u8 (op:Int),.string ⟨dst.toArray⟩,.string ⟨nm.toArray⟩,.slice pa 0 ca,.int .i64 pos.1,.int .i64 pos.2] wo from by rw [<- hwo];exact BxL.new _ _ _)
 have HB:=hid (show Below w.heap.size w wo from by rw [<- hwo];exact bA)
 rw [hwo]
 clear hwo
 obtain ⟨n0,n1,n2,n3,n4,n5,n6⟩:=HX.p7
 go_wp2_with (first
  | (go_at_call 96;(refine (rform_any ⟨8,op,dst,nm,([]:List Ag),pos⟩ (.slice pa 0 ca) _ HOP.out (Nat.le_trans HF.out.dlen (by decide)) (Nat.le_trans HF.out.nlen (by decide)) (fun a ha=>nm_len HFM.out a ha) (HSL.out.below HB.out)).mono ?_);rintro e w1 ⟨rfl,hb1⟩;rw [HFM.out];have HX1:=hid (HX.out.bel hb1);have HB1:=hid (HB.out.trans (hb1.mono HB.out.size));clear hb1 n0 n1 n2 n3 n4 n5 n6;have m4:w1.cell? ⟨w.heap.size,4,none⟩=some (.slice pa 0 ca):=HX1.out.at 4 rfl)
  | (go_at_call 97;(refine (rargs_any ([]:List Ag) (.slice pa 0 ca) _ (HSL.out.below HB1.out) (by have:=HF.out.alen;omega) HNU.out).mono ?_);rintro e w2 ⟨v2,rfl,hg2,hbb⟩;obtain ⟨p2,c2,hv2⟩:=hg2.slc;have hv2:v2=.slice p2 0 c2:=hv2;subst hv2;have HX2:=hid (HX1.out.bel hbb);have HB2:=hid (HB1.out.trans (hbb.mono HB1.out.size));obtain ⟨k0,k1,k2,k3⟩:=HX2.out.p4;clear hbb hg2 m4)
  | (go_at_call 53;(refine (rjoin_lit [wJump,nm] w2 (by simp) (by simp) (List.forall_mem_cons.2 ⟨by decide,List.forall_mem_cons.2 ⟨HF.out.nlen,List.forall_mem_nil _⟩⟩)).mono ?_);rintro e w3 ⟨rfl,hb3⟩;have HB3:=hid (HB2.out.trans (hb3.mono HB2.out.size));clear hb3))
 go_ret2
 exact ⟨rfl,HB3.out⟩
theorem rinstr_9 (op:Nat) (dst nm:Bs) (a0:Ag) (pos:Int × Int) (v:Value) (w:World) (hop:op<=255) (hfm:formB ⟨9,op,dst,nm,[a0],pos⟩=true) (hn:∀ a ∈ [a0],a.num<18446744073709551616) (h:SlG kAg (·<w.heap.size) w v [a0]) :
  Calls Tryz.prog 63 #[.agg #[.int .u8 9,.int .u8 (op:Int),.string ⟨dst.toArray⟩,.string ⟨nm.toArray⟩,v,.int .i64 pos.1,.int .i64 pos.2]] w fun e w'=>e=.returned (.tuple #[.string ⟨(jn [wIf,argT a0,nm]).toArray⟩,.int .i64 0])/\Below w.heap.size w w':=by
 have HF:=hid (form_s hfm hn)
 obtain ⟨pa,ca,hv⟩:=h.slc
 have hv:v=.slice pa 1 ca:=hv
 subst hv
 have HSL:=hid h;have HNU:=hid hn;have HOP:=hid hop
 obtain ⟨A0,hA0⟩:∃ A,argT a0=A:=⟨_,rfl⟩
 have HL0:=hid (show A0.length<=32 from by rw [<- hA0];exact HF.each a0 (by simp))
 have HM:=hid (show List.map argT [a0]=[A0] from by simp only [List.map_cons,List.map_nil,hA0])
 rw [hA0]
 clear hA0
 have HFM:=hid hfm
 clear h hn hop hfm
 go_enter Tryz.func63,Tryz.ntmps63
 go_upto_region 1 with fail
 obtain ⟨wo,hwo⟩:∃ W,w.alloc (.cells #[.int .u8 9,.int .u8 (op:Int),.string ⟨dst.toArray⟩,.string ⟨nm.toArray⟩,.slice pa 1 ca,.int .i64 pos.1,.int .i64 pos.2] 41)=W:=⟨_,rfl⟩
 have HX:=hid (show BxL 41 w.heap.size [.int .u8 9,.int .u8 (op:Int),.string ⟨dst.toArray⟩,.string ⟨nm.toArray⟩,.slice pa 1 ca,.int .i64 pos.1,.int .i64 pos.2] wo from by rw [<- hwo];exact BxL.new _ _ _)
 have HB:=hid (show Below w.heap.size w wo from by rw [<- hwo];exact bA)
 rw [hwo]
 clear hwo
 obtain ⟨n0,n1,n2,n3,n4,n5,n6⟩:=HX.p7
 go_upto_region 25 with (first
  | (go_at_call 96;(refine (rform_any ⟨9,op,dst,nm,[a0],pos⟩ (.slice pa 1 ca) _ HOP.out (Nat.le_trans HF.out.dlen (by decide)) (Nat.le_trans HF.out.nlen (by decide)) (fun a ha=>nm_len HFM.out a ha) (HSL.out.below HB.out)).mono ?_);rintro e w1 ⟨rfl,hb1⟩;rw [HFM.out];have HX1:=hid (HX.out.bel hb1);have HB1:=hid (HB.out.trans (hb1.mono HB.out.size));clear hb1 n0 n1 n2 n3 n4 n5 n6;have m4:w1.cell? ⟨w.heap.size,4,none⟩=some (.slice pa 1 ca):=HX1.out.at 4 rfl)
  | (go_at_call 97;(refine (rargs_any [a0] (.slice pa 1 ca) _ (HSL.out.below HB1.out) (by have:=HF.out.alen;omega) HNU.out).mono ?_);rintro e w2 ⟨v2,rfl,hg2,hbb⟩;rw [HM.out] at hg2;obtain ⟨p2,c2,hv2⟩:=hg2.slc;have hv2:v2=.slice p2 1 c2:=hv2;subst hv2;have HX2:=hid (HX1.out.bel hbb);have HB2:=hid (HB1.out.trans (hbb.mono HB1.out.size));obtain ⟨k0,k1,k2,k3⟩:=HX2.out.p4;obtain ⟨b2,o2,rfl,hb2,hc2⟩:=ga_one hg2;have HC2:=hid hc2;have HBB:=hid hb2;clear hb2;clear hbb hg2 m4))
 have HBD:=hid (show Below w.heap.size w w2.drew from HB2.trans ((Below.refl w2.heap.size w2).drew.mono HB2.size))
 have hS:(fun W=>W.cell? ⟨w.heap.size,2,none⟩=some (.string ⟨dst.toArray⟩)/\W.cell? ⟨w.heap.size,3,none⟩=some (.string ⟨nm.toArray⟩)/\W.cell? ⟨b2,o2,none⟩=some (.string ⟨A0.toArray⟩)) w2.drew:=⟨k2,k3,HC2.out⟩
 have hFa:=fT
 refine rgN (fun W=>W.cell? ⟨w.heap.size,2,none⟩=some (.string ⟨dst.toArray⟩)/\W.cell? ⟨w.heap.size,3,none⟩=some (.string ⟨nm.toArray⟩)/\W.cell? ⟨b2,o2,none⟩=some (.string ⟨A0.toArray⟩)) 5 (by kernel_rfl) ?_
 simp only [zP,Nat.reduceAdd]
 iterate 2 (refine npW (v:=?_) 9 (.inr hS) ?_ ?_;rotate_left;(focus intro w' _;go_simp;try rfl);simp only [aP])
 refine wpHJ_take (v:=?v2) 2 hFa rfl (by kernel_rfl) nE (Or.inl ⟨by rfl,?y2⟩) hS ?r2
 case y2=>(rintro w' ⟨s0,s1,s2⟩;go_simp;try rfl)
 simp only [Act.put,List.getElem_toArray,List.getElem_cons_succ,List.getElem_cons_zero,List.setIfInBounds_toArray,List.set_cons_zero,List.set_cons_succ]
 refine wpHJ_pure (v:=?v3) 3 hFa rfl (by kernel_rfl) nE (Or.inl ⟨by rfl,?y3⟩) (.inr hS) ?r3
 case y3=>(intro w' _;go_simp;try rfl)
 simp only [Act.put,List.getElem_toArray,List.getElem_cons_succ,List.getElem_cons_zero,List.setIfInBounds_toArray,List.set_cons_zero,List.set_cons_succ]
 refine wpHJ_take (v:=?v4) 4 hFa rfl (by kernel_rfl) nE (Or.inl ⟨by rfl,?y4⟩) hS ?r4
 case y4=>(rintro w' ⟨s0,s1,s2⟩;go_simp;try rfl)
 simp only [Act.put,List.getElem_toArray,List.getElem_cons_succ,List.getElem_cons_zero,List.setIfInBounds_toArray,List.set_cons_zero,List.set_cons_succ]
 refine oy 5 fun K hK=>?_
 go_simp
 refine hK _ _ (.inl rfl) ?_
 clear hK K
 refine oy 6 fun K hK=>?_
 go_simp
 (refine (callsIn_wide.2 (rjoin_lit [wIf,A0,nm] w2.drew (by simp) (by simp) (List.forall_mem_cons.2 ⟨by decide,List.forall_mem_cons.2 ⟨HL0.out,List.forall_mem_cons.2 ⟨HF.nlen,List.forall_mem_nil _⟩⟩⟩))).mono ?_)
 rintro e w3 ⟨rfl,hb3⟩
 have HB3:=hid (HBD.trans (hb3.mono HBD.size))
 clear hb3
 refine hK _ _ (.inr (.inl rfl)) ?_
 clear hK K
 iterate 2 (refine npW (v:=?_) 9 (.inl rfl) ?_ ?_;rotate_left;(focus intro w' _;go_simp;try rfl);simp only [aP])
 refine wpHJ_done (by kernel_rfl) ?_ _
 simp only [onlyN,Exit.then]
 clear hFa
 clear hS
 go_wp2_with fail
 go_ret2
 exact ⟨rfl,HB3.out⟩
theorem rinstr_10 (op:Nat) (dst nm:Bs) (pos:Int × Int) (v:Value) (w:World) (hop:op<=255) (hfm:formB ⟨10,op,dst,nm,([]:List Ag),pos⟩=true) (hn:∀ a ∈ ([]:List Ag),a.num<18446744073709551616) (h:SlG kAg (·<w.heap.size) w v ([]:List Ag)) :
  Calls Tryz.prog 63 #[.agg #[.int .u8 10,.int .u8 (op:Int),.string ⟨dst.toArray⟩,.string ⟨nm.toArray⟩,v,.int .i64 pos.1,.int .i64 pos.2]] w fun e w'=>e=.returned (.tuple #[.string ⟨(nm++[58]).toArray⟩,.int .i64 0])/\Below w.heap.size w w':=by
 have HF:=hid (form_s hfm hn)
 obtain ⟨pa,ca,hv⟩:=h.slc
 have hv:v=.slice pa 0 ca:=hv
 subst hv
 have HSL:=hid h;have HNU:=hid hn;have HOP:=hid hop
 have HFM:=hid hfm
 clear h hn hop hfm
 go_enter Tryz.func63,Tryz.ntmps63
 go_upto_region 1 with fail
 obtain ⟨wo,hwo⟩:∃ W,w.alloc (.cells #[.int .u8 10,.int .u8 (op:Int),.string ⟨dst.toArray⟩,.string ⟨nm.toArray⟩,.slice pa 0 ca,.int .i64 pos.1,.int .i64 pos.2] 41)=W:=⟨_,rfl⟩
 have HX:=hid (show BxL 41 w.heap.size [.int .u8 10,.int .u8 (op:Int),.string ⟨dst.toArray⟩,.string ⟨nm.toArray⟩,.slice pa 0 ca,.int .i64 pos.1,.int .i64 pos.2] wo from by rw [<- hwo];exact BxL.new _ _ _)
 have HB:=hid (show Below w.heap.size w wo from by rw [<- hwo];exact bA)
 rw [hwo]
 clear hwo
 obtain ⟨n0,n1,n2,n3,n4,n5,n6⟩:=HX.p7
 have hj2:nm.length<=32:=HF.nlen
 have hk1:¬ 9223372036854775807<nm.length+1:=by omega
 clear hj2
 go_wp2_with (first
  | (go_at_call 96;(refine (rform_any ⟨10,op,dst,nm,([]:List Ag),pos⟩ (.slice pa 0 ca) _ HOP.out (Nat.le_trans HF.out.dlen (by decide)) (Nat.le_trans HF.out.nlen (by decide)) (fun a ha=>nm_len HFM.out a ha) (HSL.out.below HB.out)).mono ?_);rintro e w1 ⟨rfl,hb1⟩;rw [HFM.out];have HX1:=hid (HX.out.bel hb1);have HB1:=hid (HB.out.trans (hb1.mono HB.out.size));clear hb1 n0 n1 n2 n3 n4 n5 n6;have m4:w1.cell? ⟨w.heap.size,4,none⟩=some (.slice pa 0 ca):=HX1.out.at 4 rfl)
  | (go_at_call 97;(refine (rargs_any ([]:List Ag) (.slice pa 0 ca) _ (HSL.out.below HB1.out) (by have:=HF.out.alen;omega) HNU.out).mono ?_);rintro e w2 ⟨v2,rfl,hg2,hbb⟩;obtain ⟨p2,c2,hv2⟩:=hg2.slc;have hv2:v2=.slice p2 0 c2:=hv2;subst hv2;have HX2:=hid (HX1.out.bel hbb);have HB2:=hid (HB1.out.trans (hbb.mono HB1.out.size));obtain ⟨k0,k1,k2,k3⟩:=HX2.out.p4;clear hbb hg2 m4))
 go_ret2
 exact ⟨rfl,HB2.out⟩
theorem rinstr_11 (op:Nat) (dst nm:Bs) (pos:Int × Int) (v:Value) (w:World) (hop:op<=255) (hfm:formB ⟨11,op,dst,nm,([]:List Ag),pos⟩=true) (hn:∀ a ∈ ([]:List Ag),a.num<18446744073709551616) (h:SlG kAg (·<w.heap.size) w v ([]:List Ag)) :
  Calls Tryz.prog 63 #[.agg #[.int .u8 11,.int .u8 (op:Int),.string ⟨dst.toArray⟩,.string ⟨nm.toArray⟩,v,.int .i64 pos.1,.int .i64 pos.2]] w fun e w'=>e=.returned (.tuple #[.string ⟨(wHalt).toArray⟩,.int .i64 0])/\Below w.heap.size w w':=by
 have HF:=hid (form_s hfm hn)
 obtain ⟨pa,ca,hv⟩:=h.slc
 have hv:v=.slice pa 0 ca:=hv
 subst hv
 have HSL:=hid h;have HNU:=hid hn;have HOP:=hid hop
 have HFM:=hid hfm
 clear h hn hop hfm
 go_enter Tryz.func63,Tryz.ntmps63
 go_upto_region 1 with fail
 obtain ⟨wo,hwo⟩:∃ W,w.alloc (.cells #[.int .u8 11,.int .u8 (op:Int),.string ⟨dst.toArray⟩,.string ⟨nm.toArray⟩,.slice pa 0 ca,.int .i64 pos.1,.int .i64 pos.2] 41)=W:=⟨_,rfl⟩
 have HX:=hid (show BxL 41 w.heap.size [.int .u8 11,.int .u8 (op:Int),.string ⟨dst.toArray⟩,.string ⟨nm.toArray⟩,.slice pa 0 ca,.int .i64 pos.1,.int .i64 pos.2] wo from by rw [<- hwo];exact BxL.new _ _ _)
 have HB:=hid (show Below w.heap.size w wo from by rw [<- hwo];exact bA)
 rw [hwo]
 clear hwo
 obtain ⟨n0,n1,n2,n3,n4,n5,n6⟩:=HX.p7
 go_wp2_with (first
  | (go_at_call 96;(refine (rform_any ⟨11,op,dst,nm,([]:List Ag),pos⟩ (.slice pa 0 ca) _ HOP.out (Nat.le_trans HF.out.dlen (by decide)) (Nat.le_trans HF.out.nlen (by decide)) (fun a ha=>nm_len HFM.out a ha) (HSL.out.below HB.out)).mono ?_);rintro e w1 ⟨rfl,hb1⟩;rw [HFM.out];have HX1:=hid (HX.out.bel hb1);have HB1:=hid (HB.out.trans (hb1.mono HB.out.size));clear hb1 n0 n1 n2 n3 n4 n5 n6;have m4:w1.cell? ⟨w.heap.size,4,none⟩=some (.slice pa 0 ca):=HX1.out.at 4 rfl)
  | (go_at_call 97;(refine (rargs_any ([]:List Ag) (.slice pa 0 ca) _ (HSL.out.below HB1.out) (by have:=HF.out.alen;omega) HNU.out).mono ?_);rintro e w2 ⟨v2,rfl,hg2,hbb⟩;obtain ⟨p2,c2,hv2⟩:=hg2.slc;have hv2:v2=.slice p2 0 c2:=hv2;subst hv2;have HX2:=hid (HX1.out.bel hbb);have HB2:=hid (HB1.out.trans (hbb.mono HB1.out.size));obtain ⟨k0,k1,k2,k3⟩:=HX2.out.p4;clear hbb hg2 m4))
 go_ret2
 exact ⟨rfl,HB2.out⟩
theorem rinstr_12 (op:Nat) (dst nm:Bs) (a0:Ag) (pos:Int × Int) (v:Value) (w:World) (hop:op<=255) (hfm:formB ⟨12,op,dst,nm,[a0],pos⟩=true) (hn:∀ a ∈ [a0],a.num<18446744073709551616) (h:SlG kAg (·<w.heap.size) w v [a0]) :
  Calls Tryz.prog 63 #[.agg #[.int .u8 12,.int .u8 (op:Int),.string ⟨dst.toArray⟩,.string ⟨nm.toArray⟩,v,.int .i64 pos.1,.int .i64 pos.2]] w fun e w'=>e=.returned (.tuple #[.string ⟨(jn [wRet,argT a0]).toArray⟩,.int .i64 0])/\Below w.heap.size w w':=by
 have HF:=hid (form_s hfm hn)
 obtain ⟨pa,ca,hv⟩:=h.slc
 have hv:v=.slice pa 1 ca:=hv
 subst hv
 have HSL:=hid h;have HNU:=hid hn;have HOP:=hid hop
 obtain ⟨A0,hA0⟩:∃ A,argT a0=A:=⟨_,rfl⟩
 have HL0:=hid (show A0.length<=32 from by rw [<- hA0];exact HF.each a0 (by simp))
 have HM:=hid (show List.map argT [a0]=[A0] from by simp only [List.map_cons,List.map_nil,hA0])
 rw [hA0]
 clear hA0
 have HFM:=hid hfm
 clear h hn hop hfm
 go_enter Tryz.func63,Tryz.ntmps63
 go_upto_region 1 with fail
 obtain ⟨wo,hwo⟩:∃ W,w.alloc (.cells #[.int .u8 12,.int .u8 (op:Int),.string ⟨dst.toArray⟩,.string ⟨nm.toArray⟩,.slice pa 1 ca,.int .i64 pos.1,.int .i64 pos.2] 41)=W:=⟨_,rfl⟩
 have HX:=hid (show BxL 41 w.heap.size [.int .u8 12,.int .u8 (op:Int),.string ⟨dst.toArray⟩,.string ⟨nm.toArray⟩,.slice pa 1 ca,.int .i64 pos.1,.int .i64 pos.2] wo from by rw [<- hwo];exact BxL.new _ _ _)
 have HB:=hid (show Below w.heap.size w wo from by rw [<- hwo];exact bA)
 rw [hwo]
 clear hwo
 obtain ⟨n0,n1,n2,n3,n4,n5,n6⟩:=HX.p7
 go_wp2_with (first
  | (go_at_call 96;(refine (rform_any ⟨12,op,dst,nm,[a0],pos⟩ (.slice pa 1 ca) _ HOP.out (Nat.le_trans HF.out.dlen (by decide)) (Nat.le_trans HF.out.nlen (by decide)) (fun a ha=>nm_len HFM.out a ha) (HSL.out.below HB.out)).mono ?_);rintro e w1 ⟨rfl,hb1⟩;rw [HFM.out];have HX1:=hid (HX.out.bel hb1);have HB1:=hid (HB.out.trans (hb1.mono HB.out.size));clear hb1 n0 n1 n2 n3 n4 n5 n6;have m4:w1.cell? ⟨w.heap.size,4,none⟩=some (.slice pa 1 ca):=HX1.out.at 4 rfl)
  | (go_at_call 97;(refine (rargs_any [a0] (.slice pa 1 ca) _ (HSL.out.below HB1.out) (by have:=HF.out.alen;omega) HNU.out).mono ?_);rintro e w2 ⟨v2,rfl,hg2,hbb⟩;rw [HM.out] at hg2;obtain ⟨p2,c2,hv2⟩:=hg2.slc;have hv2:v2=.slice p2 1 c2:=hv2;subst hv2;have HX2:=hid (HX1.out.bel hbb);have HB2:=hid (HB1.out.trans (hbb.mono HB1.out.size));obtain ⟨k0,k1,k2,k3⟩:=HX2.out.p4;obtain ⟨b2,o2,rfl,hb2,hc2⟩:=ga_one hg2;have HC2:=hid hc2;have HBB:=hid hb2;clear hb2;clear hbb hg2 m4)
  | (go_at_call 53;(refine (rjoin_lit [wRet,A0] w2 (by simp) (by simp) (List.forall_mem_cons.2 ⟨by decide,List.forall_mem_cons.2 ⟨HL0.out,List.forall_mem_nil _⟩⟩)).mono ?_);rintro e w3 ⟨rfl,hb3⟩;have HB3:=hid (HB2.out.trans (hb3.mono HB2.out.size));clear hb3))
 go_ret2
 exact ⟨rfl,HB3.out⟩
theorem rinstr_bad (x:In) (v:Value) (w:World) (hop:x.op<=255) (hd:x.dst.length<=140737488355328) (hm:x.nm.length<=140737488355328) (ha:∀ a ∈ x.args,a.nm.length<=140737488355328) (hfm:formB x=false) (h:SlG kAg (·<w.heap.size) w v x.args) :
  Calls Tryz.prog 63 #[.agg #[.int .u8 (x.kind:Int),.int .u8 (x.op:Int),.string ⟨x.dst.toArray⟩,.string ⟨x.nm.toArray⟩,v,.int .i64 x.pos.1,.int .i64 x.pos.2]] w fun e w'=>e=.returned (.tuple #[.string ⟨#[]⟩,.int .i64 4])/\Below w.heap.size w w':=by
 obtain ⟨pa,ca,rfl⟩:=h.slc
 have HSL:=hid h;have HFM:=hid hfm;have HL:=hid (And.intro hop (And.intro hd (And.intro hm ha)))
 clear h hfm hop hd hm ha
 go_enter Tryz.func63,Tryz.ntmps63
 go_upto_region 1 with fail
 obtain ⟨wo,hwo⟩:∃ W,w.alloc (.cells #[.int .u8 (x.kind:Int),.int .u8 (x.op:Int),.string ⟨x.dst.toArray⟩,.string ⟨x.nm.toArray⟩,.slice pa x.args.length ca,.int .i64 x.pos.1,.int .i64 x.pos.2] 41)=W:=⟨_,rfl⟩
 have HX:=hid (show BxL 41 w.heap.size [.int .u8 (x.kind:Int),.int .u8 (x.op:Int),.string ⟨x.dst.toArray⟩,.string ⟨x.nm.toArray⟩,.slice pa x.args.length ca,.int .i64 x.pos.1,.int .i64 x.pos.2] wo from by rw [<- hwo];exact BxL.new _ _ _)
 have HB:=hid (show Below w.heap.size w wo from by rw [<- hwo];exact bA)
 rw [hwo]
 clear hwo
 obtain ⟨n0,n1,n2,n3,n4,n5,n6⟩:=HX.p7
 go_wp2_with (go_at_call 96;(refine (rform_any x (.slice pa x.args.length ca) _ HL.out.1 HL.out.2.1 HL.out.2.2.1 HL.out.2.2.2 (HSL.out.below HB.out)).mono ?_);rintro e w1 ⟨rfl,hb1⟩;rw [HFM.out];have HB1:=hid (HB.out.trans (hb1.mono HB.out.size));clear hb1)
 go_ret2
 exact ⟨rfl,HB1.out⟩
theorem rinstr_any (x:In) (v:Value) (w:World) (hop:x.op<=255) (hd:x.dst.length<=140737488355328) (hm:x.nm.length<=140737488355328) (ha:∀ a ∈ x.args,a.nm.length<=140737488355328) (hn:∀ a ∈ x.args,a.num<18446744073709551616) (h:SlG kAg (·<w.heap.size) w v x.args) :
  Calls Tryz.prog 63 #[.agg #[.int .u8 (x.kind:Int),.int .u8 (x.op:Int),.string ⟨x.dst.toArray⟩,.string ⟨x.nm.toArray⟩,v,.int .i64 x.pos.1,.int .i64 x.pos.2]] w fun e w'=>e=.returned (.tuple #[.string ⟨(instrM x).1.toArray⟩,.int .i64 (instrM x).2])/\Below w.heap.size w w':=by
 cases hf:formB x with
 | false =>
  have:instrM x=([],4):=by unfold instrM;rw [if_neg (by rw [hf];decide)]
  rw [this]
  exact rinstr_bad x v w hop hd hm ha hf h
 | true =>
  have hlen:=form_len hf
  have hkd:=(form_s hf hn).kd
  have hi:instrM x=(lineM x,0):=by unfold instrM;rw [if_pos hf]
  rw [hi]
  obtain ⟨kind,op,dst,nm,args,pos⟩:=x
  simp only at h hop hn hkd hlen ⊢
  rcases (show kind=0\/kind=1\/kind=2\/kind=3\/kind=4\/kind=5\/kind=6\/kind=7\/kind=8\/kind=9\/kind=10\/kind=11\/kind=12 by omega) with rfl | rfl | rfl | rfl | rfl | rfl | rfl | rfl | rfl | rfl | rfl | rfl | rfl
  ·have hl:args.length=1:=by have h2:(args.length:Int)=1:=hlen (by decide) (by decide);omega
   obtain ⟨a0,rfl⟩:=List.length_eq_one_iff.1 hl
   exact rinstr_0 op dst nm a0 pos v w hop hf hn h
  ·exact rinstr_1 op dst nm args pos v w hop hf hn h
  ·have hl:args.length=1:=by have h2:(args.length:Int)=1:=hlen (by decide) (by decide);omega
   obtain ⟨a0,rfl⟩:=List.length_eq_one_iff.1 hl
   exact rinstr_2 op dst nm a0 pos v w hop hf hn h
  ·have hl:args.length=2:=by have h2:(args.length:Int)=2:=hlen (by decide) (by decide);omega
   obtain ⟨a0,a1,rfl⟩:∃ a b,args=[a,b]:=by
    rcases args with _ | ⟨a,_ | ⟨b,_ | ⟨c,r⟩⟩⟩
    ·simp at hl
    ·simp at hl
    ·exact ⟨a,b,rfl⟩
    ·simp at hl
   exact rinstr_3 op dst nm a0 a1 pos v w hop hf hn h
  ·exact rinstr_4 op dst nm args pos v w hop hf hn h
  ·have hl:args.length=0:=by have h2:(args.length:Int)=0:=hlen (by decide) (by decide);omega
   obtain rfl:=List.eq_nil_of_length_eq_zero hl
   exact rinstr_5 op dst nm pos v w hop hf hn h
  ·have hl:args.length=1:=by have h2:(args.length:Int)=1:=hlen (by decide) (by decide);omega
   obtain ⟨a0,rfl⟩:=List.length_eq_one_iff.1 hl
   exact rinstr_6 op dst nm a0 pos v w hop hf hn h
  ·have hl:args.length=1:=by have h2:(args.length:Int)=1:=hlen (by decide) (by decide);omega
   obtain ⟨a0,rfl⟩:=List.length_eq_one_iff.1 hl
   exact rinstr_7 op dst nm a0 pos v w hop hf hn h
  ·have hl:args.length=0:=by have h2:(args.length:Int)=0:=hlen (by decide) (by decide);omega
   obtain rfl:=List.eq_nil_of_length_eq_zero hl
   exact rinstr_8 op dst nm pos v w hop hf hn h
  ·have hl:args.length=1:=by have h2:(args.length:Int)=1:=hlen (by decide) (by decide);omega
   obtain ⟨a0,rfl⟩:=List.length_eq_one_iff.1 hl
   exact rinstr_9 op dst nm a0 pos v w hop hf hn h
  ·have hl:args.length=0:=by have h2:(args.length:Int)=0:=hlen (by decide) (by decide);omega
   obtain rfl:=List.eq_nil_of_length_eq_zero hl
   exact rinstr_10 op dst nm pos v w hop hf hn h
  ·have hl:args.length=0:=by have h2:(args.length:Int)=0:=hlen (by decide) (by decide);omega
   obtain rfl:=List.eq_nil_of_length_eq_zero hl
   exact rinstr_11 op dst nm pos v w hop hf hn h
  ·have hl:args.length=1:=by have h2:(args.length:Int)=1:=hlen (by decide) (by decide);omega
   obtain ⟨a0,rfl⟩:=List.length_eq_one_iff.1 hl
   exact rinstr_12 op dst nm a0 pos v w hop hf hn h
end Go.Proofs.YtoofbgoeipijcaaGreatDoor
