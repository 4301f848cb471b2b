/-
 A part.
-/
import Derived.Test.YtoofbgoeipijcaaGreatDoorVSPrJ
import Derived.Test.YtoofbgoeipijcaaGreatDoorVSPrT
namespace Go.Proofs.YtoofbgoeipijcaaGreatDoor
set_option linter.all false
open Go.RowKit Go.Shelf
attribute [local go_sem] Oper.semAt_some
theorem sizes_of {B:Nat} {w:World} {C:CK} (h:PgV (·<B) w C.a C.b C.c C.d C.p):∃ pa ca pb cb pc cc pd cd,C.a=.slice pa C.p.chans.length ca/\C.b=.slice pb C.p.arrays.length cb/\C.c=.slice pc C.p.funcs.length cc/\C.d=.slice pd C.p.main.length cd:=by
 obtain ⟨pa,ca,h1⟩:=h.1.slc
 obtain ⟨pb,cb,h2⟩:=h.2.1.slc
 obtain ⟨pc,cc,h3⟩:=h.2.2.1.slc
 obtain ⟨pd,cd,h4⟩:=h.2.2.2.slc
 exact ⟨pa,ca,pb,cb,pc,cc,pd,cd,h1,h2,h3,h4⟩
set_option maxRecDepth 100000 in
set_option maxHeartbeats 16000000 in
theorem run_any (B:Nat) (C:CK) (w:World) (hck:Ck B w C (.slice none 0 0) [] ⟨[],[],[],[],[]⟩) (hpr:PrB B w) (hok:PgOk C.p) :
  Calls Tryz.prog 80 #[.pointer (some ⟨C.cb,0,none⟩)] w (RunPost B C.p w):=by
 obtain ⟨pa,ca,pb,cb,pc,cc,pd,cd,hka,hkb,hkc,hkd⟩:=sizes_of hck.pg
 have HKA:=hid hka;have HKB:=hid hkb;have HKC:=hid hkc;have HKD:=hid hkd;have HOK:=hid hok
 have hmm:=@run_makeMap Tryz.prog
 have HCK:=hid hck;have HPR:=hid hpr
 have HM:=hid (checkM_ck C.p)
 have c0:∀ o,(w.alloc o).cell? ⟨C.cb,0,none⟩=some (.int .i64 C.p.width):=fun o=>(hck.below ((Below.refl _ _).alloc lrf o)).box.at 0 rfl
 have c1:∀ o,(w.alloc o).cell? ⟨C.cb,1,none⟩=some (.slice pa C.p.chans.length ca):=fun o=>by rw [<- hka];exact (hck.below ((Below.refl _ _).alloc lrf o)).box.at 1 rfl
 have c2:∀ o,(w.alloc o).cell? ⟨C.cb,2,none⟩=some (.slice pb C.p.arrays.length cb):=fun o=>by rw [<- hkb];exact (hck.below ((Below.refl _ _).alloc lrf o)).box.at 2 rfl
 have c3:∀ o,(w.alloc o).cell? ⟨C.cb,3,none⟩=some (.slice pc C.p.funcs.length cc):=fun o=>by rw [<- hkc];exact (hck.below ((Below.refl _ _).alloc lrf o)).box.at 3 rfl
 have c4:∀ o,(w.alloc o).cell? ⟨C.cb,4,none⟩=some (.slice pd C.p.main.length cd):=fun o=>by rw [<- hkd];exact (hck.below ((Below.refl _ _).alloc lrf o)).box.at 4 rfl
 clear hka hkb hkc hkd hck hpr hok
 go_enter Tryz.func80,Tryz.ntmps80
 go_upto_region 2 with fail
 obtain ⟨wa,hwa⟩:∃ W,(w.alloc (.cells #[.int .i64 0,.int .i64 0] 39)).alloc (.cells #[.int .i64 C.p.width,.slice pa C.p.chans.length ca,.slice pb C.p.arrays.length cb,.slice pc C.p.funcs.length cc,.slice pd C.p.main.length cd] 27)=W:=⟨_,rfl⟩
 rw [hwa]
 obtain ⟨b2,hb2⟩:∃ b,w.heap.size=b:=⟨_,rfl⟩
 obtain ⟨b3,hb3⟩:∃ b,w.heap.size+1=b:=⟨_,rfl⟩
 have HSZ:=hid hb2;have HSZ3:=hid hb3
 rw [hb3]
 rw [hb2]
 have hri:RI B w C (.slice none 0 0) [] ⟨[],[],[],[],[]⟩ b2 b3 wa:=by
  have h1:Below w.heap.size w wa:=by rw [<- hwa];exact (bA).alloc (by rw [sA];omega) _
  have h2:BxL 39 b2 [.int .i64 0,.int .i64 0] wa:=by rw [<- hwa,<- hb2];exact (BxL.new _ w _).al _
  have h3:BxL 27 b3 [.int .i64 C.p.width,C.a,C.b,C.c,C.d] wa:=by
   have:=BxL.new 27 (w.alloc (.cells #[.int .i64 0,.int .i64 0] 39)) [.int .i64 C.p.width,.slice pa C.p.chans.length ca,.slice pb C.p.arrays.length cb,.slice pc C.p.funcs.length cc,.slice pd C.p.main.length cd]
   rw [sA,hwa,hb3] at this
   rw [HKA.out,HKB.out,HKC.out,HKD.out];exact this
  exact ⟨HCK.below h1,HPR.step (h1.mono HCK.size),h2,h3,h1.mono HCK.size,HCK.apart (by omega),HCK.apart (by omega)⟩
 have HRI:=hid hri
 have x0:wa.cell? ⟨b3,0,none⟩=some (.int .i64 C.p.width):=hri.pb.at 0 rfl
 have x1:wa.cell? ⟨b3,1,none⟩=some (.slice pa C.p.chans.length ca):=by rw [<- HKA.out];exact hri.pb.at 1 rfl
 have x2:wa.cell? ⟨b3,2,none⟩=some (.slice pb C.p.arrays.length cb):=by rw [<- HKB.out];exact hri.pb.at 2 rfl
 have x3:wa.cell? ⟨b3,3,none⟩=some (.slice pc C.p.funcs.length cc):=by rw [<- HKC.out];exact hri.pb.at 3 rfl
 have x4:wa.cell? ⟨b3,4,none⟩=some (.slice pd C.p.main.length cd):=by rw [<- HKD.out];exact hri.pb.at 4 rfl
 obtain ⟨xz0,xz1⟩:=hri.z.p2
 clear hwa hri c0 c1 c2 c3 c4 hb2 hb3
 rcases (show C.p.width<1\/(1<=C.p.width/\64<C.p.width)\/(1<=C.p.width/\C.p.width<=64) by omega) with hw | ⟨hw,hw'⟩ | ⟨hw,hw'⟩
 ·have g1:decide (1<=C.p.width)=false:=by simp;omega
  have HF:=hid (show checkM C.p=((0,0),3) from by rw [HM.out,if_pos (by omega)])
  clear hw
  go_wp2_with (go_at_call 118;with_reducible refine (need_false (0,0) 3 _).mono ?_;rintro e w1 ⟨rfl,hb1⟩;have HR1:=hid (HRI.out.below hb1);clear hb1)
  exact ⟨rfl,RunPost.bad HF.out (by decide) HR1.bel⟩
 ·have g1:decide (1<=C.p.width)=true:=by simp;omega
  have g2:decide (C.p.width<=64)=false:=by simp;omega
  have HF:=hid (show checkM C.p=((0,0),3) from by rw [HM.out,if_pos (by omega)])
  clear hw hw'
  go_wp2_with (go_at_call 118;with_reducible refine (need_false (0,0) 3 _).mono ?_;rintro e w1 ⟨rfl,hb1⟩;have HR1:=hid (HRI.out.below hb1);clear hb1)
  exact ⟨rfl,RunPost.bad HF.out (by decide) HR1.bel⟩
 have g1:decide (1<=C.p.width)=true:=by simp;omega
 have g2:decide (C.p.width<=64)=true:=by simp;omega
 have HM1:=hid (show checkM C.p=ck1 C.p from by rw [HM.out,if_neg (by omega)])
 clear hw hw' HM
 go_upto_region 3 with (go_at_call 118;with_reducible refine (need_true (0,0) 3 _).mono ?_;rintro e w1 ⟨rfl,hb1⟩;have HR1:=hid (HRI.out.below hb1);clear hb1)
 clear x0 x1 x2 x3 x4 xz0 xz1 g1 g2
 have x0:w1.cell? ⟨b3,0,none⟩=some (.int .i64 C.p.width):=HR1.pb.at 0 rfl
 have x1:w1.cell? ⟨b3,1,none⟩=some (.slice pa C.p.chans.length ca):=by rw [<- HKA.out];exact HR1.pb.at 1 rfl
 have x2:w1.cell? ⟨b3,2,none⟩=some (.slice pb C.p.arrays.length cb):=by rw [<- HKB.out];exact HR1.pb.at 2 rfl
 have x3:w1.cell? ⟨b3,3,none⟩=some (.slice pc C.p.funcs.length cc):=by rw [<- HKC.out];exact HR1.pb.at 3 rfl
 have x4:w1.cell? ⟨b3,4,none⟩=some (.slice pd C.p.main.length cd):=by rw [<- HKD.out];exact HR1.pb.at 4 rfl
 obtain ⟨xz0,xz1⟩:=HR1.z.p2
 obtain ⟨wr0,rfl⟩:∃ W:World,W=w1:=⟨_,rfl⟩
 by_cases hl:32<C.p.chans.length
 ·have g1:decide ((C.p.chans.length:Int)<=32)=false:=by simp;omega
  have HF:=hid (show checkM C.p=((0,0),5) from by rw [HM1.out];unfold ck1;rw [if_pos hl])
  clear hl
  go_wp2_with (go_at_call 118;with_reducible refine (need_false (0,0) 5 _).mono ?_;rintro e w1 ⟨rfl,hb1⟩;have HR2:=hid (HR1.out.below hb1);clear hb1)
  exact ⟨rfl,RunPost.bad HF.out (by decide) HR2.bel⟩
 have g1:decide ((C.p.chans.length:Int)<=32)=true:=by simp;omega
 have HM2:=hid (show checkM C.p=(declM (0,0) [] C.p.chans).getD (ck2 C.p) from by rw [HM1.out];unfold ck1;rw [if_neg hl])
 have HLC:=hid hl
 clear hl HM1
 go_upto_region 4 with (go_at_call 118;with_reducible refine (need_true (0,0) 5 _).mono ?_;rintro e w1 ⟨rfl,hb1⟩;have HR2:=hid (HR1.out.below hb1);clear hb1)
 clear x0 x1 x2 x3 x4 xz0 xz1 g1
 have x0:w1.cell? ⟨b3,0,none⟩=some (.int .i64 C.p.width):=HR2.pb.at 0 rfl
 have x1:w1.cell? ⟨b3,1,none⟩=some (.slice pa C.p.chans.length ca):=by rw [<- HKA.out];exact HR2.pb.at 1 rfl
 have x2:w1.cell? ⟨b3,2,none⟩=some (.slice pb C.p.arrays.length cb):=by rw [<- HKB.out];exact HR2.pb.at 2 rfl
 have x3:w1.cell? ⟨b3,3,none⟩=some (.slice pc C.p.funcs.length cc):=by rw [<- HKC.out];exact HR2.pb.at 3 rfl
 have x4:w1.cell? ⟨b3,4,none⟩=some (.slice pd C.p.main.length cd):=by rw [<- HKD.out];exact HR2.pb.at 4 rfl
 obtain ⟨xz0,xz1⟩:=HR2.z.p2
 go_wp2_with fail
 go_loopw [5,42] (fun v5 iv wr=>∃ k:Nat,k<=C.p.chans.length/\iv=.int .i64 (k:Int)/\declM (0,0) (C.p.chans.take k) (C.p.chans.drop k)=declM (0,0) [] C.p.chans/\RI B w C (.slice none 0 0) [] ⟨C.p.chans.take k,[],[],[],[]⟩ b2 b3 wr) (fun _ iv _=>C.p.chans.length - (intOf iv).toNat)
 case atStart=>exact ⟨0,Nat.zero_le _,rfl,rfl,HR2.out⟩
 case round =>
  obtain ⟨wq,rfl⟩:∃ W:World,W=wr:=⟨_,rfl⟩
  obtain ⟨k,hk,rfl,hm,hri⟩:=hrel
  by_cases hlt:k<C.p.chans.length
  ·have hg:=hri.ck.pg.1
   rw [HKA.out] at hg
   obtain ⟨b,off,rfl,hR,hcells⟩:=str_at hg (by omega)
   have hcell:=hcells k hlt
   rw [List.drop_eq_getElem_cons hlt,declM_cons] at hm
   have HSN:=hid hm
   have HTK:=hid (show C.p.chans.take (k+1)=C.p.chans.take k++[C.p.chans[k]] from List.take_succ_eq_append_getElem hlt)
   have HLT:=hid hlt;have HQ:=hid hri
   clear hg hR hcells hm hri hk
   generalize C.p.chans[k]=s at *
   clear hlt
   go_upto_region 7 with fail
   clear hcell
   have hS:(fun W=>W.cell? ⟨C.cb,5,none⟩=some (.map (some C.mc))/\W.cell? ⟨b2,0,none⟩=some (.int .i64 0)/\W.cell? ⟨b2,1,none⟩=some (.int .i64 0)) wq.drew:=⟨HQ.ck.box.at 5 rfl,HQ.z.at 0 rfl,HQ.z.at 1 rfl⟩
   have HQD:=hid HQ.drew
   cases hnm:namedB s with
   | false =>
    have HF:=hid (show checkM C.p=((0,0),4) from by rw [HM2.out,<- HSN.out,if_pos hnm];rfl)
    have hFa:∀ f,Fence.wide.fn f:=fun _=>trivial
    refine (wpIn_wide (n:=9)).1 ?_
    refine wpIn_onlyP (fun c w'=>RunPost B C.p w (.panicked c) w') (fun _ _ _ h=>h) ?_
    refine wpIn_region_HJ (fun W=>W.cell? ⟨C.cb,5,none⟩=some (.map (some C.mc))/\W.cell? ⟨b2,0,none⟩=some (.int .i64 0)/\W.cell? ⟨b2,1,none⟩=some (.int .i64 0)) 6 (by kernel_rfl) ?_
    simp only [zP,Nat.reduceAdd]
    iterate 3 (refine npW (v:=?_) 7 (.inr hS) ?_ ?_;rotate_left;(focus intro w' _;go_simp;try rfl);simp only [aP])
    refine wpHJ_take (v:=?v6) 3 hFa rfl (by kernel_rfl) onlyP_put (Or.inl ⟨by rfl,?y6⟩) hS ?r6
    case y6=>(rintro w' ⟨s0,s1,s2⟩;go_simp;try rfl)
    simp only [aP]
    refine wpHJ_pure (v:=?v7) 4 hFa rfl (by kernel_rfl) onlyP_put (Or.inl ⟨by rfl,?y7⟩) (.inr hS) ?r7
    case y7=>(intro w' _;go_simp;try rfl)
    simp only [aP]
    refine wpHJ_take (v:=?v8) 5 hFa rfl (by kernel_rfl) onlyP_put (Or.inl ⟨by rfl,?y8⟩) hS ?r8
    case y8=>(rintro w' ⟨s0,s1,s2⟩;go_simp;try rfl)
    simp only [aP]
    refine oy 6 fun K hK=>?_
    go_simp
    (with_reducible refine (callsIn_wide.2 (decl_bad s (0,0) C.mc (C.p.chans.take k) B wq.drew HQD.out.pr HQD.out.ck.ch HQD.out.ck.ge.2.1 hnm)).mono ?_)
    rintro e w9 ⟨rfl,hb9⟩
    exact ⟨rfl,RunPost.bad HF.out (by decide) (HQD.below hb9).bel⟩
   | true =>
    cases hcs:(C.p.chans.take k).contains s with
    | true =>
     have HF:=hid (show checkM C.p=((0,0),8) from by rw [HM2.out,<- HSN.out,if_neg (by rw [hnm];decide),if_pos hcs];rfl)
     have hFa:∀ f,Fence.wide.fn f:=fun _=>trivial
     refine (wpIn_wide (n:=9)).1 ?_
     refine wpIn_onlyP (fun c w'=>RunPost B C.p w (.panicked c) w') (fun _ _ _ h=>h) ?_
     refine wpIn_region_HJ (fun W=>W.cell? ⟨C.cb,5,none⟩=some (.map (some C.mc))/\W.cell? ⟨b2,0,none⟩=some (.int .i64 0)/\W.cell? ⟨b2,1,none⟩=some (.int .i64 0)) 6 (by kernel_rfl) ?_
     simp only [zP,Nat.reduceAdd]
     iterate 3 (refine npW (v:=?_) 7 (.inr hS) ?_ ?_;rotate_left;(focus intro w' _;go_simp;try rfl);simp only [aP])
     refine wpHJ_take (v:=?v9) 3 hFa rfl (by kernel_rfl) onlyP_put (Or.inl ⟨by rfl,?y9⟩) hS ?r9
     case y9=>(rintro w' ⟨s0,s1,s2⟩;go_simp;try rfl)
     simp only [aP]
     refine wpHJ_pure (v:=?va) 4 hFa rfl (by kernel_rfl) onlyP_put (Or.inl ⟨by rfl,?ya⟩) (.inr hS) ?ra
     case ya=>(intro w' _;go_simp;try rfl)
     simp only [aP]
     refine wpHJ_take (v:=?vb) 5 hFa rfl (by kernel_rfl) onlyP_put (Or.inl ⟨by rfl,?yb⟩) hS ?rb
     case yb=>(rintro w' ⟨s0,s1,s2⟩;go_simp;try rfl)
     simp only [aP]
     refine oy 6 fun K hK=>?_
     go_simp
     (with_reducible refine (callsIn_wide.2 (decl_twice s (0,0) C.mc (C.p.chans.take k) B wq.drew HQD.out.pr HQD.out.ck.ch HQD.out.ck.ge.2.1 hnm hcs)).mono ?_)
     rintro e w9 ⟨rfl,hb9⟩
     exact ⟨rfl,RunPost.bad HF.out (by decide) (HQD.below hb9).bel⟩
    | false =>
     have HST:=hid (show declM (0,0) (C.p.chans.take (k+1)) (C.p.chans.drop (k+1))=declM (0,0) [] C.p.chans from by rw [<- HSN.out,if_neg (by rw [hnm];decide),if_neg (by rw [hcs];decide),HTK.out])
     have hFa:∀ f,Fence.wide.fn f:=fun _=>trivial
     refine (wpIn_wide (n:=9)).1 ?_
     refine wpIn_onlyP (fun c w'=>RunPost B C.p w (.panicked c) w') (fun _ _ _ h=>h) ?_
     refine wpIn_region_HJ (fun W=>W.cell? ⟨C.cb,5,none⟩=some (.map (some C.mc))/\W.cell? ⟨b2,0,none⟩=some (.int .i64 0)/\W.cell? ⟨b2,1,none⟩=some (.int .i64 0)) 6 (by kernel_rfl) ?_
     simp only [zP,Nat.reduceAdd]
     iterate 3 (refine npW (v:=?_) 7 (.inr hS) ?_ ?_;rotate_left;(focus intro w' _;go_simp;try rfl);simp only [aP])
     refine wpHJ_take (v:=?vc) 3 hFa rfl (by kernel_rfl) onlyP_put (Or.inl ⟨by rfl,?yc⟩) hS ?rc
     case yc=>(rintro w' ⟨s0,s1,s2⟩;go_simp;try rfl)
     simp only [aP]
     refine wpHJ_pure (v:=?vd) 4 hFa rfl (by kernel_rfl) onlyP_put (Or.inl ⟨by rfl,?yd⟩) (.inr hS) ?rd
     case yd=>(intro w' _;go_simp;try rfl)
     simp only [aP]
     refine wpHJ_take (v:=?ve) 5 hFa rfl (by kernel_rfl) onlyP_put (Or.inl ⟨by rfl,?ye⟩) hS ?re
     case ye=>(rintro w' ⟨s0,s1,s2⟩;go_simp;try rfl)
     simp only [aP]
     refine oy 6 fun K hK=>?_
     go_simp
     (with_reducible refine (callsIn_wide.2 (decl_ok s (0,0) C.mc (C.p.chans.take k) B wq.drew HQD.out.pr HQD.out.ck.ch HQD.out.ck.ge.2.1 hnm hcs)).mono ?_)
     rintro e w9 ⟨rfl,hm9,hb9⟩
     have HR9:=hid (HQD.setCh hb9 hm9)
     clear hm9 hb9 hS
     refine hK _ _ (.inl rfl) (dN ?_)
     clear hK K
     simp only [onlyP,Exit.then]
     clear hFa
     rw [<- HTK.out] at HR9
     clear hnm hcs
     go_wp2_with fail
     go_roundw
     case rel=>exact ⟨k+1,HLT.out,by rw [wrap_next HLT.out (by have:=HLC.out;omega)],HST.out,HR9.out⟩
     case measure=>exact meas_next HLT.out (by have:=HLC.out;omega)
  ·obtain rfl:k=C.p.chans.length:=by omega
   have HM3:=hid (show checkM C.p=ck2 C.p from by rw [HM2.out,<- hm,List.drop_length];rfl)
   rw [List.take_length] at hri
   have HQ:=hid hri
   clear hlt hm hri hk HM2 HR2 HR1 HRI
   have x2:wq.cell? ⟨b3,2,none⟩=some (.slice pb C.p.arrays.length cb):=by rw [<- HKB.out];exact HQ.pb.at 2 rfl
   obtain ⟨xz0,xz1⟩:=HQ.z.p2
   by_cases hl:32<C.p.arrays.length
   ·have g1:decide ((C.p.arrays.length:Int)<=32)=false:=by simp;omega
    have HF:=hid (show checkM C.p=((0,0),5) from by rw [HM3.out];unfold ck2;rw [if_pos hl])
    clear hl
    go_wp2_with (go_at_call 118;with_reducible refine (need_false (0,0) 5 _).mono ?_;rintro e w1 ⟨rfl,hb1⟩;have HR2:=hid (HQ.out.below hb1);clear hb1)
    exact ⟨rfl,RunPost.bad HF.out (by decide) HR2.bel⟩
   have g1:decide ((C.p.arrays.length:Int)<=32)=true:=by simp;omega
   have HM4:=hid (show checkM C.p=(arrsM [] C.p.arrays).getD (ck3 C.p) from by rw [HM3.out];unfold ck2;rw [if_neg hl])
   have HLA:=hid hl
   clear hl HM3
   go_upto_region 10 with (go_at_call 118;with_reducible refine (need_true (0,0) 5 _).mono ?_;rintro e w1 ⟨rfl,hb1⟩;have HR2:=hid (HQ.out.below hb1);clear hb1)
   clear x2 xz0 xz1 g1
   have x2:w1.cell? ⟨b3,2,none⟩=some (.slice pb C.p.arrays.length cb):=by rw [<- HKB.out];exact HR2.pb.at 2 rfl
   obtain ⟨xz0,xz1⟩:=HR2.z.p2
   go_wp2_with fail
   go_loopw [7,63] (fun v7 iv wr=>∃ k:Nat,k<=C.p.arrays.length/\iv=.int .i64 (k:Int)/\arrsM ((C.p.arrays.take k).map Ar.nm) (C.p.arrays.drop k)=arrsM [] C.p.arrays/\RI B w C (.slice none 0 0) [] ⟨C.p.chans,(C.p.arrays.take k).map Ar.nm,[],[],[]⟩ b2 b3 wr) (fun _ iv _=>C.p.arrays.length - (intOf iv).toNat)
   case atStart=>exact ⟨0,Nat.zero_le _,rfl,rfl,HR2.out⟩
   case round =>
    obtain ⟨k,hk,rfl,hm,hri⟩:=hrel
    by_cases hlt:k<C.p.arrays.length
    ·have hg:=hri.ck.pg.2.1
     rw [HKB.out] at hg
     obtain ⟨b,off,rfl,hR,hcells⟩:=ar_at hg (by omega)
     obtain ⟨e0,e1⟩:=hcells k hlt
     rw [List.drop_eq_getElem_cons hlt,arrsM_cons] at hm
     have HSN:=hid hm
     have HTK:=hid (show (C.p.arrays.take (k+1)).map Ar.nm=(C.p.arrays.take k).map Ar.nm++[C.p.arrays[k].nm] from by rw [List.take_succ_eq_append_getElem hlt,List.map_append];rfl)
     have HLT:=hid hlt;have HQ0:=hid hri
     clear hg hR hcells hm hri hk
     generalize C.p.arrays[k]=a at *
     clear hlt
     go_upto_region 13 with fail
     obtain ⟨ba,hba⟩:∃ b,wr.heap.size=b:=⟨_,rfl⟩
     obtain ⟨wq,hwq⟩:∃ W,wr.alloc (.cells #[.string ⟨a.nm.toArray⟩,.int .i64 a.size] 87)=W:=⟨_,rfl⟩
     have HQ:=hid (show RI B w C (.slice none 0 0) [] ⟨C.p.chans,(C.p.arrays.take k).map Ar.nm,[],[],[]⟩ b2 b3 wq from by rw [<- hwq];exact HQ0.below (bA))
     have HBA:=hid (show BxL 87 ba [.string ⟨a.nm.toArray⟩,.int .i64 a.size] wq from by rw [<- hwq,<- hba];exact BxL.new _ _ _)
     rw [hwq,hba]
     clear hwq hba e0 e1
     have hS:(fun W=>W.cell? ⟨C.cb,6,none⟩=some (.map (some C.ma))/\W.cell? ⟨b2,0,none⟩=some (.int .i64 0)/\W.cell? ⟨b2,1,none⟩=some (.int .i64 0)/\W.cell? ⟨ba,0,none⟩=some (.string ⟨a.nm.toArray⟩)) wq.drew:=⟨HQ.ck.box.at 6 rfl,HQ.z.at 0 rfl,HQ.z.at 1 rfl,HBA.at 0 rfl⟩
     have HQD:=hid HQ.drew
     have HBAD:=hid (show BxL 87 ba [.string ⟨a.nm.toArray⟩,.int .i64 a.size] wq.drew from HBA.out)
     cases hnm:namedB a.nm with
     | false =>
      have HF:=hid (show checkM C.p=((0,0),4) from by rw [HM4.out,<- HSN.out,if_pos hnm];rfl)
      have hFa:∀ f,Fence.wide.fn f:=fun _=>trivial
      refine (wpIn_wide (n:=9)).1 ?_
      refine wpIn_onlyP (fun c w'=>RunPost B C.p w (.panicked c) w') (fun _ _ _ h=>h) ?_
      refine wpIn_region_HJ (fun W=>W.cell? ⟨C.cb,6,none⟩=some (.map (some C.ma))/\W.cell? ⟨b2,0,none⟩=some (.int .i64 0)/\W.cell? ⟨b2,1,none⟩=some (.int .i64 0)/\W.cell? ⟨ba,0,none⟩=some (.string ⟨a.nm.toArray⟩)) 7 (by kernel_rfl) ?_
      simp only [zP,Nat.reduceAdd]
      iterate 3 (refine npW (v:=?_) 8 (.inr hS) ?_ ?_;rotate_left;(focus intro w' _;go_simp;try rfl);simp only [aP])
      refine wpHJ_take (v:=?v0) 3 hFa rfl (by kernel_rfl) onlyP_put (Or.inl ⟨by rfl,?y0⟩) hS ?r0
      case y0=>(rintro w' ⟨s0,s1,s2,s3⟩;go_simp;try rfl)
      simp only [aP]
      refine wpHJ_pure (v:=?v1) 4 hFa rfl (by kernel_rfl) onlyP_put (Or.inl ⟨by rfl,?y1⟩) (.inr hS) ?r1
      case y1=>(intro w' _;go_simp;try rfl)
      simp only [aP]
      iterate 2 (refine nxW (v:=?_) 8 hS ?_ ?_;rotate_left;(focus intro w' hS';obtain ⟨s0,s1,s2,s3⟩:=hS';go_simp;try rfl);simp only [aP])
      refine oy 7 fun K hK=>?_
      go_simp
      (with_reducible refine (callsIn_wide.2 (decl_bad a.nm (0,0) C.ma ((C.p.arrays.take k).map Ar.nm) B wq.drew HQD.out.pr HQD.out.ck.ar HQD.out.ck.ge.2.2.1 hnm)).mono ?_)
      rintro e w9 ⟨rfl,hb9⟩
      exact ⟨rfl,RunPost.bad HF.out (by decide) (HQD.below hb9).bel⟩
     | true =>
      cases hcs:((C.p.arrays.take k).map Ar.nm).contains a.nm with
      | true =>
       have HF:=hid (show checkM C.p=((0,0),8) from by rw [HM4.out,<- HSN.out,if_neg (by rw [hnm];decide),if_pos hcs];rfl)
       have hFa:∀ f,Fence.wide.fn f:=fun _=>trivial
       refine (wpIn_wide (n:=9)).1 ?_
       refine wpIn_onlyP (fun c w'=>RunPost B C.p w (.panicked c) w') (fun _ _ _ h=>h) ?_
       refine wpIn_region_HJ (fun W=>W.cell? ⟨C.cb,6,none⟩=some (.map (some C.ma))/\W.cell? ⟨b2,0,none⟩=some (.int .i64 0)/\W.cell? ⟨b2,1,none⟩=some (.int .i64 0)/\W.cell? ⟨ba,0,none⟩=some (.string ⟨a.nm.toArray⟩)) 7 (by kernel_rfl) ?_
       simp only [zP,Nat.reduceAdd]
       iterate 3 (refine npW (v:=?_) 8 (.inr hS) ?_ ?_;rotate_left;(focus intro w' _;go_simp;try rfl);simp only [aP])
       refine wpHJ_take (v:=?v2) 3 hFa rfl (by kernel_rfl) onlyP_put (Or.inl ⟨by rfl,?y2⟩) hS ?r2
       case y2=>(rintro w' ⟨s0,s1,s2,s3⟩;go_simp;try rfl)
       simp only [aP]
       refine wpHJ_pure (v:=?v3) 4 hFa rfl (by kernel_rfl) onlyP_put (Or.inl ⟨by rfl,?y3⟩) (.inr hS) ?r3
       case y3=>(intro w' _;go_simp;try rfl)
       simp only [aP]
       iterate 2 (refine nxW (v:=?_) 8 hS ?_ ?_;rotate_left;(focus intro w' hS';obtain ⟨s0,s1,s2,s3⟩:=hS';go_simp;try rfl);simp only [aP])
       refine oy 7 fun K hK=>?_
       go_simp
       (with_reducible refine (callsIn_wide.2 (decl_twice a.nm (0,0) C.ma ((C.p.arrays.take k).map Ar.nm) B wq.drew HQD.out.pr HQD.out.ck.ar HQD.out.ck.ge.2.2.1 hnm hcs)).mono ?_)
       rintro e w9 ⟨rfl,hb9⟩
       exact ⟨rfl,RunPost.bad HF.out (by decide) (HQD.below hb9).bel⟩
      | false =>
       have HSN2:=hid (show (if a.size<1\/64<a.size then some ((0,0),3) else arrsM ((C.p.arrays.take (k+1)).map Ar.nm) (C.p.arrays.drop (k+1)):Option Flt)=arrsM [] C.p.arrays from by refine (HSN.symm.trans ?_).symm;rw [if_neg (by rw [hnm];decide),if_neg (by rw [hcs];decide),HTK.out])
       have hFa:∀ f,Fence.wide.fn f:=fun _=>trivial
       refine (wpIn_wide (n:=9)).1 ?_
       refine wpIn_onlyP (fun c w'=>RunPost B C.p w (.panicked c) w') (fun _ _ _ h=>h) ?_
       refine wpIn_region_HJ (fun W=>W.cell? ⟨C.cb,6,none⟩=some (.map (some C.ma))/\W.cell? ⟨b2,0,none⟩=some (.int .i64 0)/\W.cell? ⟨b2,1,none⟩=some (.int .i64 0)/\W.cell? ⟨ba,0,none⟩=some (.string ⟨a.nm.toArray⟩)) 7 (by kernel_rfl) ?_
       simp only [zP,Nat.reduceAdd]
       iterate 3 (refine npW (v:=?_) 8 (.inr hS) ?_ ?_;rotate_left;(focus intro w' _;go_simp;try rfl);simp only [aP])
       refine wpHJ_take (v:=?v4) 3 hFa rfl (by kernel_rfl) onlyP_put (Or.inl ⟨by rfl,?y4⟩) hS ?r4
       case y4=>(rintro w' ⟨s0,s1,s2,s3⟩;go_simp;try rfl)
       simp only [aP]
       refine wpHJ_pure (v:=?v5) 4 hFa rfl (by kernel_rfl) onlyP_put (Or.inl ⟨by rfl,?y5⟩) (.inr hS) ?r5
       case y5=>(intro w' _;go_simp;try rfl)
       simp only [aP]
       iterate 2 (refine nxW (v:=?_) 8 hS ?_ ?_;rotate_left;(focus intro w' hS';obtain ⟨s0,s1,s2,s3⟩:=hS';go_simp;try rfl);simp only [aP])
       refine oy 7 fun K hK=>?_
       go_simp
       (with_reducible refine (callsIn_wide.2 (decl_ok a.nm (0,0) C.ma ((C.p.arrays.take k).map Ar.nm) B wq.drew HQD.out.pr HQD.out.ck.ar HQD.out.ck.ge.2.2.1 hnm hcs)).mono ?_)
       rintro e w9 ⟨rfl,hm9,hb9⟩
       have HBA9:=hid (HBAD.bum hb9 HQD.ck.ar)
       have HR9:=hid (HQD.setAr hb9 hm9)
       clear hm9 hb9 hS
       refine hK _ _ (.inl rfl) (dN ?_)
       clear hK K
       simp only [onlyP,Exit.then]
       clear hFa
       rw [<- HTK.out] at HR9
       clear hnm hcs
       have y1:w9.cell? ⟨ba,1,none⟩=some (.int .i64 a.size):=HBA9.at 1 rfl
       obtain ⟨yz0,yz1⟩:=HR9.z.p2
       rcases (show a.size<1\/(1<=a.size/\64<a.size)\/(1<=a.size/\a.size<=64) by omega) with hw | ⟨hw,hw'⟩ | ⟨hw,hw'⟩
       ·have g1:decide (1<=a.size)=false:=by simp;omega
        have HF:=hid (show checkM C.p=((0,0),3) from by rw [HM4.out,<- HSN2.out,if_pos (by omega)];rfl)
        clear hw
        go_wp2_with (go_at_call 118;with_reducible refine (need_false (0,0) 3 _).mono ?_;rintro e w1 ⟨rfl,hb1⟩;have HR1:=hid (HR9.out.below hb1);clear hb1)
        exact ⟨rfl,RunPost.bad HF.out (by decide) HR1.bel⟩
       ·have g1:decide (1<=a.size)=true:=by simp;omega
        have g2:decide (a.size<=64)=false:=by simp;omega
        have HF:=hid (show checkM C.p=((0,0),3) from by rw [HM4.out,<- HSN2.out,if_pos (by omega)];rfl)
        clear hw hw'
        go_wp2_with (go_at_call 118;with_reducible refine (need_false (0,0) 3 _).mono ?_;rintro e w1 ⟨rfl,hb1⟩;have HR1:=hid (HR9.out.below hb1);clear hb1)
        exact ⟨rfl,RunPost.bad HF.out (by decide) HR1.bel⟩
       ·have g1:decide (1<=a.size)=true:=by simp;omega
        have g2:decide (a.size<=64)=true:=by simp;omega
        have HST:=hid (show arrsM ((C.p.arrays.take (k+1)).map Ar.nm) (C.p.arrays.drop (k+1))=arrsM [] C.p.arrays from by rw [<- HSN2.out,if_neg (by omega)])
        clear hw hw'
        go_wp2_with (go_at_call 118;with_reducible refine (need_true (0,0) 3 _).mono ?_;rintro e w1 ⟨rfl,hb1⟩;have HR1:=hid (HR9.out.below hb1);clear hb1)
        go_roundw
        case rel=>exact ⟨k+1,HLT.out,by rw [wrap_next HLT.out (by have:=HLA.out;omega)],HST.out,HR1.out⟩
        case measure=>exact meas_next HLT.out (by have:=HLA.out;omega)
    ·obtain rfl:k=C.p.arrays.length:=by omega
     have HM5:=hid (show checkM C.p=ck3 C.p from by rw [HM4.out,<- hm,List.drop_length];rfl)
     rw [List.take_length] at hri
     have HQ:=hid hri
     clear hlt hm hri hk HM4 HR2
     obtain ⟨wq,rfl⟩:∃ W:World,W=wr:=⟨_,rfl⟩
     have x3:wq.cell? ⟨b3,3,none⟩=some (.slice pc C.p.funcs.length cc):=by rw [<- HKC.out];exact HQ.pb.at 3 rfl
     obtain ⟨xz0,xz1⟩:=HQ.z.p2
     by_cases hl:32<C.p.funcs.length
     ·have g1:decide ((C.p.funcs.length:Int)<=32)=false:=by simp;omega
      have HF:=hid (show checkM C.p=((0,0),5) from by rw [HM5.out];unfold ck3;rw [if_pos hl])
      clear hl
      go_wp2_with (go_at_call 118;with_reducible refine (need_false (0,0) 5 _).mono ?_;rintro e w1 ⟨rfl,hb1⟩;have HR2:=hid (HQ.out.below hb1);clear hb1)
      exact ⟨rfl,RunPost.bad HF.out (by decide) HR2.bel⟩
     have g1:decide ((C.p.funcs.length:Int)<=32)=true:=by simp;omega
     have HM6:=hid (show checkM C.p=exF (funcsM C.p.chans (C.p.arrays.map Ar.nm) [] [] [] C.p.funcs) (ck4 C.p) from by rw [HM5.out];unfold ck3;rw [if_neg hl])
     have HLF:=hid hl
     clear hl HM5
     go_upto_region 17 with (go_at_call 118;with_reducible refine (need_true (0,0) 5 _).mono ?_;rintro e w1 ⟨rfl,hb1⟩;have HR2:=hid (HQ.out.below hb1);clear hb1)
     clear x3 xz0 xz1 g1
     go_upto_region 18 with fail
     have HFL:=hid (FL.start HR2.out)
     obtain ⟨fm,hfm⟩:∃ b,w1.heap.size=b:=⟨_,rfl⟩
     obtain ⟨wf,hwf⟩:∃ W,w1.alloc (.map #[] 0)=W:=⟨_,rfl⟩
     rw [hwf,hfm] at HFL
     rw [hwf,hfm]
     clear hwf hfm
     have x3:wf.cell? ⟨b3,3,none⟩=some (.slice pc C.p.funcs.length cc):=by rw [<- HKC.out];exact HFL.ri.pb.at 3 rfl
     go_wp2_with fail
     go_loopw [10,11,13,96] (fun v10 v11 v13 iv wr=>∃ (k:Nat) (vl:Value) (rs:List Nat) (labels:List (List Bs)) (sites:List Bs),k<=C.p.funcs.length/\iv=.int .i64 (k:Int)/\rs.length=k/\funcsM C.p.chans (C.p.arrays.map Ar.nm) ((C.p.funcs.take k).map Fu.nm) labels sites (C.p.funcs.drop k)=funcsM C.p.chans (C.p.arrays.map Ar.nm) [] [] [] C.p.funcs/\FL B w C vl rs ⟨C.p.chans,C.p.arrays.map Ar.nm,sites,cntL (C.p.funcs.take k),labels⟩ b2 b3 fm ((C.p.funcs.take k).map Fu.nm) wr) (fun _ _ _ iv _=>C.p.funcs.length - (intOf iv).toNat)
     case atStart=>exact ⟨0,.slice none 0 0,[],[],[],Nat.zero_le _,rfl,rfl,rfl,HFL.out⟩
     case round =>
      obtain ⟨wz,rfl⟩:∃ W:World,W=wr:=⟨_,rfl⟩
      obtain ⟨k,vl,rs,labels,sites,hk,rfl,hrl,hm,hfl⟩:=hrel
      by_cases hlt:k<C.p.funcs.length
      ·have hg:=hfl.ri.ck.pg.2.2.1
       rw [HKC.out] at hg
       obtain ⟨b,off,rfl,hR,hcells⟩:=fu_at hg (by omega)
       obtain ⟨pp,cp,pq,cq,hsp,hsc,e0,e1,e2,e3,e4⟩:=hcells k hlt
       rw [List.drop_eq_getElem_cons hlt,funcsM_cons] at hm
       have HSN:=hid hm
       have HTK:=hid (show (C.p.funcs.take (k+1)).map Fu.nm=(C.p.funcs.take k).map Fu.nm++[C.p.funcs[k].nm] from by rw [List.take_succ_eq_append_getElem hlt,List.map_append];rfl)
       have HTC:=hid (show cntL (C.p.funcs.take (k+1))=cntL (C.p.funcs.take k)++[(C.p.funcs[k].nm,C.p.funcs[k].params.length)] from by rw [List.take_succ_eq_append_getElem hlt,cnt_snoc])
       have HFK:=hid (HOK.funcs C.p.funcs[k] (List.getElem_mem hlt))
       have HLT:=hid hlt;have HQ0:=hid hfl;have HRL:=hid hrl
       clear hg hR hcells hm hfl hk hrl
       generalize C.p.funcs[k]=f at *
       have HSP:=hid hsp;have HSC:=hid hsc
       clear hlt hsp hsc
       go_upto_region 21 with fail
       obtain ⟨bf,hbf⟩:∃ b,wz.heap.size=b:=⟨_,rfl⟩
       obtain ⟨wq,hwq⟩:∃ W,wz.alloc (.cells #[.string ⟨f.nm.toArray⟩,.slice pp f.params.length cp,.slice pq f.code.length cq,.int .i64 f.pos.1,.int .i64 f.pos.2] 74)=W:=⟨_,rfl⟩
       have HF0:=hid (show FL B w C vl rs ⟨C.p.chans,C.p.arrays.map Ar.nm,sites,cntL (C.p.funcs.take k),labels⟩ b2 b3 fm ((C.p.funcs.take k).map Fu.nm) wq from by rw [<- hwq];exact HQ0.below (bA))
       have HB0:=hid (show BxL 74 bf [.string ⟨f.nm.toArray⟩,.slice pp f.params.length cp,.slice pq f.code.length cq,.int .i64 f.pos.1,.int .i64 f.pos.2] wq from by rw [<- hwq,<- hbf];exact BxL.new _ _ _)
       rw [hwq,hbf]
       clear hwq hbf e0 e1 e2 e3 e4
       obtain ⟨y0,y1,y2,y3,y4⟩:=HB0.p5
       cases hnm:namedB f.nm with
       | false =>
        have HF:=hid (show checkM C.p=(f.pos,4) from by rw [HM6.out,<- HSN.out,if_pos hnm];rfl)
        go_wp2_with (go_at_call 119;(with_reducible refine (decl_bad f.nm f.pos fm ((C.p.funcs.take k).map Fu.nm) B _ HF0.out.ri.pr HF0.out.nm HF0.out.of.geB hnm).mono ?_);rintro e w9 ⟨rfl,hb9⟩;skip)
        exact ⟨rfl,RunPost.bad HF.out (show (4:Int) ≠ 0 by decide) (HF0.below hb9).ri.bel⟩
       | true =>
        cases hcs:((C.p.funcs.take k).map Fu.nm).contains f.nm with
        | true =>
         have HF:=hid (show checkM C.p=(f.pos,8) from by rw [HM6.out,<- HSN.out,if_neg (by rw [hnm];decide),if_pos hcs];rfl)
         go_wp2_with (go_at_call 119;(with_reducible refine (decl_twice f.nm f.pos fm ((C.p.funcs.take k).map Fu.nm) B _ HF0.out.ri.pr HF0.out.nm HF0.out.of.geB hnm hcs).mono ?_);rintro e w9 ⟨rfl,hb9⟩;skip)
         exact ⟨rfl,RunPost.bad HF.out (show (8:Int) ≠ 0 by decide) (HF0.below hb9).ri.bel⟩
        | false =>
         have HFR:=hid (cnt_fresh (C.p.funcs.take k) f.nm hcs)
         have HSN2:=hid (show (if 32<f.params.length then .error (f.pos,5) else match declM f.pos [] f.params with | some x => .error x | none=>exS (instrsM C.p.chans (C.p.arrays.map Ar.nm) false f.pos f.code sites) fun l s=>funcsM C.p.chans (C.p.arrays.map Ar.nm) ((C.p.funcs.take (k+1)).map Fu.nm) (labels++[l]) s (C.p.funcs.drop (k+1)):Except Flt (List (List Bs) × List Bs))=funcsM C.p.chans (C.p.arrays.map Ar.nm) [] [] [] C.p.funcs from by refine (HSN.symm.trans ?_).symm;rw [if_neg (by rw [hnm];decide),if_neg (by rw [hcs];decide),HTK.out];rfl)
         clear HSN
         go_upto_region 22 with (go_at_call 119;(with_reducible refine (decl_ok f.nm f.pos fm ((C.p.funcs.take k).map Fu.nm) B _ HF0.out.ri.pr HF0.out.nm HF0.out.of.geB hnm hcs).mono ?_);rintro e w1 ⟨rfl,hm1,hb1⟩;have HF1:=hid (HF0.out.decl hm1 hb1);have HB1:=hid (HB0.out.bum hb1 HF0.out.nm);clear hm1 hb1)
         rw [<- HTK.out] at HF1
         clear hnm hcs y0 y1 y2 y3 y4
         clear HF0 HB0
         obtain ⟨y0,y1,y2,y3,y4⟩:=HB1.p5
         by_cases hl:32<f.params.length
         ·have g1:decide ((f.params.length:Int)<=32)=false:=by simp;omega
          have HF:=hid (show checkM C.p=(f.pos,5) from by rw [HM6.out,<- HSN2.out,if_pos hl];rfl)
          clear hl
          go_wp2_with (go_at_call 118;(with_reducible refine (need_false f.pos 5 _).mono ?_);rintro e w2 ⟨rfl,hb1⟩;skip)
          exact ⟨rfl,RunPost.bad HF.out (show (5:Int) ≠ 0 by decide) (HF1.below hb1).ri.bel⟩
         have g1:decide ((f.params.length:Int)<=32)=true:=by simp;omega
         have HSN3:=hid (HSN2.symm.trans (if_neg hl)).symm
         have HLP:=hid hl
         clear hl HSN2
         go_upto_region 23 with (go_at_call 118;(with_reducible refine (need_true f.pos 5 _).mono ?_);rintro e w2 ⟨rfl,hb1⟩;have HF2:=hid (HF1.out.below hb1);have HB2:=hid (HB1.out.bel hb1);clear hb1)
         clear g1 y0 y1 y2 y3 y4
         clear HF1 HB1
         go_upto_region 24 with fail
         obtain ⟨m,hbm⟩:∃ b,w2.heap.size=b:=⟨_,rfl⟩
         obtain ⟨wm,hwm⟩:∃ W,w2.alloc (.map #[] 0)=W:=⟨_,rfl⟩
         have HF3:=hid (show FL B w C vl rs ⟨C.p.chans,C.p.arrays.map Ar.nm,sites,cntL (C.p.funcs.take k),labels⟩ b2 b3 fm ((C.p.funcs.take (k+1)).map Fu.nm) wm from by rw [<- hwm];exact HF2.below (bA))
         have HB3:=hid (show BxL 74 bf [.string ⟨f.nm.toArray⟩,.slice pp f.params.length cp,.slice pq f.code.length cq,.int .i64 f.pos.1,.int .i64 f.pos.2] wm from by rw [<- hwm];exact HB2.al _)
         have HM0:=hid (show NmS wm m [] from by rw [<- hwm,<- hbm];exact NmS.new _)
         have HOM:=hid (show Off B C vl rs m/\m ≠ b2/\m ≠ b3/\m ≠ fm from by rw [<- hbm];exact ⟨HF2.ri.ck.apart lrf,by have:=HF2.ri.z.lt;omega,by have:=HF2.ri.pb.lt;omega,by have:=HF2.nm.lt;omega⟩)
         rw [hwm,hbm]
         clear hwm hbm HF2 HB2
         have y1:wm.cell? ⟨bf,1,none⟩=some (.slice pp f.params.length cp):=HB3.at 1 rfl
         go_wp2_with fail
         go_loopw [13,117] (fun v13 iv wr=>∃ j:Nat,j<=f.params.length/\iv=.int .i64 (j:Int)/\declM f.pos (f.params.take j) (f.params.drop j)=declM f.pos [] f.params/\FL B w C vl rs ⟨C.p.chans,C.p.arrays.map Ar.nm,sites,cntL (C.p.funcs.take k),labels⟩ b2 b3 fm ((C.p.funcs.take (k+1)).map Fu.nm) wr/\NmS wr m (f.params.take j)/\BxL 74 bf [.string ⟨f.nm.toArray⟩,.slice pp f.params.length cp,.slice pq f.code.length cq,.int .i64 f.pos.1,.int .i64 f.pos.2] wr) (fun _ iv _=>f.params.length - (intOf iv).toNat)
         case atStart=>exact ⟨0,Nat.zero_le _,rfl,rfl,HF3.out,HM0.out,HB3.out⟩
         case round =>
          obtain ⟨wy,rfl⟩:∃ W:World,W=wr:=⟨_,rfl⟩
          obtain ⟨j,hj,rfl,hdj,hfj,hnj,hbj⟩:=hrel
          by_cases hjt:j<f.params.length
          ·obtain ⟨b',off',rfl,hR',hcs'⟩:=str_at (HSP.via HQ0.ri.bel hfj.ri.bel) (by omega)
           have hcell:=hcs' j hjt
           rw [List.drop_eq_getElem_cons hjt,declM_cons] at hdj
           have HDN:=hid hdj
           have HTJ:=hid (show f.params.take (j+1)=f.params.take j++[f.params[j]] from List.take_succ_eq_append_getElem hjt)
           have HJT:=hid hjt;have HFJ:=hid hfj;have HNJ:=hid hnj;have HBJ:=hid hbj
           clear hR' hcs' hdj hj hfj hnj
           generalize f.params[j]=s at *
           clear hjt
           have z3:wy.cell? ⟨bf,3,none⟩=some (.int .i64 f.pos.1):=hbj.at 3 rfl
           have z4:wy.cell? ⟨bf,4,none⟩=some (.int .i64 f.pos.2):=hbj.at 4 rfl
           clear hbj y1
           cases hnm:namedB s with
           | false =>
            have HDB:declM f.pos [] f.params=some (f.pos,4):=by rw [<- HDN.out,if_pos hnm]
            have HF:=hid (show checkM C.p=(f.pos,4) from by rw [HM6.out,<- HSN3.out,HDB];rfl)
            clear HDB
            go_wp2_with (go_at_call 119;(with_reducible refine (decl_bad s f.pos m (f.params.take j) B _ HFJ.out.ri.pr HNJ.out HOM.out.1.geB hnm).mono ?_);rintro e w9 ⟨rfl,hb9⟩;skip)
            exact ⟨rfl,RunPost.bad HF.out (show (4:Int) ≠ 0 by decide) (HFJ.below hb9).ri.bel⟩
           | true =>
            cases hcs:(f.params.take j).contains s with
            | true =>
             have HDB:declM f.pos [] f.params=some (f.pos,8):=by rw [<- HDN.out,if_neg (by rw [hnm];decide),if_pos hcs]
             have HF:=hid (show checkM C.p=(f.pos,8) from by rw [HM6.out,<- HSN3.out,HDB];rfl)
             clear HDB
             go_wp2_with (go_at_call 119;(with_reducible refine (decl_twice s f.pos m (f.params.take j) B _ HFJ.out.ri.pr HNJ.out HOM.out.1.geB hnm hcs).mono ?_);rintro e w9 ⟨rfl,hb9⟩;skip)
             exact ⟨rfl,RunPost.bad HF.out (show (8:Int) ≠ 0 by decide) (HFJ.below hb9).ri.bel⟩
            | false =>
             have HST:=hid (show declM f.pos (f.params.take (j+1)) (f.params.drop (j+1))=declM f.pos [] f.params from by rw [<- HDN.out,if_neg (by rw [hnm];decide),if_neg (by rw [hcs];decide),HTJ.out])
             go_wp2_with (go_at_call 119;(with_reducible refine (decl_ok s f.pos m (f.params.take j) B _ HFJ.out.ri.pr HNJ.out HOM.out.1.geB hnm hcs).mono ?_);rintro e w1 ⟨rfl,hm1,hb1⟩;have HF1:=hid (HFJ.out.other hb1 HOM.out.1 HOM.out.2.1 HOM.out.2.2.1 HOM.out.2.2.2);have HB1:=hid (HBJ.out.bum hb1 HNJ.out);have HN1:=hid hm1;clear hm1 hb1)
             rw [<- HTJ.out] at HN1
             clear hnm hcs
             go_roundw
             case rel=>exact ⟨j+1,HJT.out,by rw [wrap_next HJT.out (by have:=HLP.out;omega)],HST.out,HF1.out,HN1.out,HB1.out⟩
             case measure=>exact meas_next HJT.out (by have:=HLP.out;omega)
          ·obtain rfl:j=f.params.length:=by omega
           have hdn:declM f.pos [] f.params=none:=by rw [<- hdj,List.drop_length];rfl
           have HSN4:=hid (show exS (instrsM C.p.chans (C.p.arrays.map Ar.nm) false f.pos f.code sites) (fun l s=>funcsM C.p.chans (C.p.arrays.map Ar.nm) ((C.p.funcs.take (k+1)).map Fu.nm) (labels++[l]) s (C.p.funcs.drop (k+1)))=funcsM C.p.chans (C.p.arrays.map Ar.nm) [] [] [] C.p.funcs from by rw [<- HSN3.out,hdn])
           have HFJ:=hid hfj;have HBJ:=hid hbj
           clear hjt hdn hdj hj hnj hfj hbj y1 HSN3 HF3 HB3 HM0 HOM
           go_upto_region 29 with fail
           have hS:(fun W=>W.cell? ⟨C.cb,8,none⟩=some (.map (some C.mp))/\W.cell? ⟨bf,0,none⟩=some (.string ⟨f.nm.toArray⟩)/\W.cell? ⟨bf,1,none⟩=some (.slice pp f.params.length cp)) wy.drew:=⟨HFJ.ri.ck.box.at 8 rfl,HBJ.at 0 rfl,HBJ.at 1 rfl⟩
           obtain ⟨w5,hrun,hm5,hg5⟩:=run_putS (P:=Tryz.prog) (w:=wy.drew) (t:=120) (kt:=9) (e:=3) (HFJ.drew.ri.ck.pm:MapS wy.drew C.mp (ctE (cntL (C.p.funcs.take k)))) Tryz.underlying120 Tryz.underlying9 f.nm (.int .i64 (f.params.length:Int))
           rw [ctE_put _ _ _ HFR.out,<- HTC.out] at hm5
           have HB5:=hid ((show BxL 74 bf [.string ⟨f.nm.toArray⟩,.slice pp f.params.length cp,.slice pq f.code.length cq,.int .i64 f.pos.1,.int .i64 f.pos.2] wy.drew from HBJ.out).bum (But.of_grown hg5) HFJ.drew.ri.ck.pm)
           have HF5:=hid (HFJ.drew.setPm (But.of_grown hg5) hm5)
           clear hm5 hg5
           have hFa:=fT
           refine rgN (fun W=>W.cell? ⟨C.cb,8,none⟩=some (.map (some C.mp))/\W.cell? ⟨bf,0,none⟩=some (.string ⟨f.nm.toArray⟩)/\W.cell? ⟨bf,1,none⟩=some (.slice pp f.params.length cp)) 9 (by kernel_rfl) ?_
           simp only [zP,Nat.reduceAdd]
           iterate 3 (refine npW (v:=?_) 10 (.inr hS) ?_ ?_;rotate_left;(focus intro w' _;go_simp;try rfl);simp only [aP])
           refine wpHJ_take (v:=?vf) 3 hFa rfl (by kernel_rfl) nE (Or.inl ⟨by rfl,?yf⟩) hS ?rf
           case yf=>(rintro w' ⟨s0,s1,s2⟩;go_simp;try rfl)
           simp only [aP]
           refine wpHJ_pure (v:=?vg) 4 hFa rfl (by kernel_rfl) nE (Or.inl ⟨by rfl,?yg⟩) (.inr hS) ?rg
           case yg=>(intro w' _;go_simp;try rfl)
           simp only [aP]
           refine wpHJ_take (v:=?vh) 5 hFa rfl (by kernel_rfl) nE (Or.inl ⟨by rfl,?yh⟩) hS ?rh
           case yh=>(rintro w' ⟨s0,s1,s2⟩;go_simp;try rfl)
           simp only [aP]
           refine wpHJ_pure (v:=?vi) 6 hFa rfl (by kernel_rfl) nE (Or.inl ⟨by rfl,?yi⟩) (.inr hS) ?ri
           case yi=>(intro w' _;go_simp;try rfl)
           simp only [aP]
           refine wpHJ_take (v:=?vj) 7 hFa rfl (by kernel_rfl) nE (Or.inl ⟨by rfl,?yj⟩) hS ?rj
           case yj=>(rintro w' ⟨s0,s1,s2⟩;go_simp;try rfl)
           simp only [aP]
           refine wpHJ_pure (v:=?vk) 8 hFa rfl (by kernel_rfl) nE (Or.inl ⟨by rfl,?yk⟩) (.inr hS) ?rk
           case yk=>(intro w' _;go_simp;try rfl)
           simp only [aP]
           refine oy 9 fun K hK=>?_
           go_simp
           refine hK _ _ (.inl rfl) (dN ?_)
           clear hK K
           simp only [onlyN,Exit.then]
           clear hFa
           clear hS hrun
           have y2:w5.cell? ⟨bf,2,none⟩=some (.slice pq f.code.length cq):=HB5.at 2 rfl
           have y3:w5.cell? ⟨bf,3,none⟩=some (.int .i64 f.pos.1):=HB5.at 3 rfl
           have y4:w5.cell? ⟨bf,4,none⟩=some (.int .i64 f.pos.2):=HB5.at 4 rfl
           cases hin:instrsM C.p.chans (C.p.arrays.map Ar.nm) false f.pos f.code sites with
           | error fl =>
            have HF:=hid (show checkM C.p=fl from by rw [HM6.out,<- HSN4.out,hin];rfl)
            have HN0:=hid (instrs_ne0 hin)
            have HIN:=hid hin
            clear hin
            go_wp2_with (go_at_call 120;(with_reducible refine (instrs_any false f.code f.pos _ _ HF5.out.ri.ck HF5.out.ri.pr (HSC.out.via HQ0.out.ri.bel HF5.out.ri.bel) HFK.out (by have:=HLT.out;have:=HRL.out;have:=HLF.out;omega) _ HIN.out).mono ?_);rintro e w9 ⟨rfl,hb9⟩;skip)
            exact ⟨rfl,RunPost.bad HF.out HN0.out (HF5.ri.bel.trans hb9)⟩
           | ok q =>
            obtain ⟨ll,ss⟩:=q
            have HST:=hid (show funcsM C.p.chans (C.p.arrays.map Ar.nm) ((C.p.funcs.take (k+1)).map Fu.nm) (labels++[ll]) ss (C.p.funcs.drop (k+1))=funcsM C.p.chans (C.p.arrays.map Ar.nm) [] [] [] C.p.funcs from by rw [<- HSN4.out,hin];rfl)
            have HIN:=hid hin
            clear hin
            go_wp2_with (go_at_call 120;(with_reducible refine (instrs_any false f.code f.pos _ _ HF5.out.ri.ck HF5.out.ri.pr (HSC.out.via HQ0.out.ri.bel HF5.out.ri.bel) HFK.out (by have:=HLT.out;have:=HRL.out;have:=HLF.out;omega) _ HIN.out).mono ?_);rintro e w9 ⟨rfl,v9,r9,hck9,hb9,hr9,hmv9⟩;have HF9:=hid (HF5.out.labels hck9 hb9 hr9 hmv9);clear hck9 hb9 hr9 hmv9)
            go_roundw
            case rel=>exact ⟨k+1,v9,rs++[r9],labels++[ll],ss,HLT.out,by rw [wrap_next HLT.out (by have:=HLF.out;omega)],by rw [List.length_append,HRL.out];rfl,HST.out,HF9.out⟩
            case measure=>exact meas_next HLT.out (by have:=HLF.out;omega)
      ·obtain rfl:k=C.p.funcs.length:=by omega
       rw [List.drop_length,List.take_length] at hm
       have HRS:=hid (show funcsM C.p.chans (C.p.arrays.map Ar.nm) [] [] [] C.p.funcs=.ok (labels,sites) from hm.symm)
       have HLL:=hid (funcs_len _ _ _ _ _ _ hm.symm)
       have HM7:=hid (show checkM C.p=ck4 C.p labels sites from by rw [HM6.out,<- hm];rfl)
       rw [List.take_length] at hfl
       have HQ:=hid hfl.ri
       have HFQ:=hid hfl.ri
       have HMS:=hid (show SlG kIn (·<B) wz (.slice pd C.p.main.length cd) C.p.main from by rw [<- HKD.out];exact HQ.ck.pg.2.2.2)
       have HRL:=hid hrl
       clear hlt hm hfl hk HM6 HR2 HFL hrl
       have x4:wz.cell? ⟨b3,4,none⟩=some (.slice pd C.p.main.length cd):=by rw [<- HKD.out];exact HQ.pb.at 4 rfl
       obtain ⟨xz0,xz1⟩:=HQ.z.p2
       cases hin:instrsM C.p.chans (C.p.arrays.map Ar.nm) true (0,0) C.p.main sites with
       | error fl =>
        have HF:=hid (show checkM C.p=fl from by rw [HM7.out];unfold ck4;rw [hin];rfl)
        have HN0:=hid (instrs_ne0 hin)
        have HIN:=hid hin
        clear hin
        go_wp2_with (go_at_call 120;(with_reducible refine (instrs_any true C.p.main (0,0) _ _ HQ.out.ck HQ.out.pr (HMS.out) HOK.out.main (by have:=HRL.out;have:=HLF.out;omega) _ HIN.out).mono ?_);rintro e w9 ⟨rfl,hb9⟩;skip)
        exact ⟨rfl,RunPost.bad HF.out HN0.out (HQ.bel.trans hb9)⟩
       | ok q =>
       obtain ⟨ml,ss⟩:=q
       have HM8:=hid (show checkM C.p=ck5 C.p labels ml from by rw [HM7.out];unfold ck4;rw [hin];rfl)
       have HIN:=hid hin
       clear hin HM7
       go_upto_region 33 with (go_at_call 120;(with_reducible refine (instrs_any true C.p.main (0,0) _ _ HQ.out.ck HQ.out.pr (HMS.out) HOK.out.main (by have:=HRL.out;have:=HLF.out;omega) _ HIN.out).mono ?_);rintro e w9 ⟨rfl,v9,r9,hck9,hb9,hr9,hmv9⟩;have HR9:=hid (HQ.out.labels hck9 hb9 hr9 hmv9);clear hck9 hb9 hr9 hmv9)
       obtain ⟨pv,cv,hv9⟩:=HR9.ck.lb.slc
       have hrn:(rs++[r9]).length=C.p.funcs.length+1:=by rw [List.length_append,HRL.out];rfl
       have HRN:=hid hrn
       rw [hrn] at hv9
       subst hv9
       obtain ⟨bl,ol,hpv,_⟩:=HR9.ck.label HRN.out (by have:=HLF.out;omega) (by omega)
       subst hpv
       have HLE:=hid (show labels.length=C.p.funcs.length from by have:=HLL.1;simpa using this)
       clear hrn x4 xz0 xz1
       have x3:w9.cell? ⟨b3,3,none⟩=some (.slice pc C.p.funcs.length cc):=by rw [<- HKC.out];exact HR9.pb.at 3 rfl
       go_wp2_with fail
       go_loopw [14,15,151] (fun v14 v15 iv wr=>∃ k:Nat,k<=C.p.funcs.length/\iv=.int .i64 (k:Int)/\laterM C.p (labels.drop k) (C.p.funcs.drop k)=laterM C.p labels C.p.funcs/\RI B w C (.slice (some ⟨bl,ol,none⟩) (C.p.funcs.length+1) cv) (rs++[r9]) ⟨C.p.chans,C.p.arrays.map Ar.nm,ss,cntL C.p.funcs,labels++[ml]⟩ b2 b3 wr) (fun _ _ iv _=>C.p.funcs.length - (intOf iv).toNat)
       case atStart=>exact ⟨0,Nat.zero_le _,rfl,rfl,HR9.out⟩
       case round =>
        obtain ⟨wx,rfl⟩:∃ W:World,W=wr:=⟨_,rfl⟩
        obtain ⟨k,hk,rfl,hm,hri⟩:=hrel
        by_cases hlt:k<C.p.funcs.length
        ·have hg:=hri.ck.pg.2.2.1
         rw [HKC.out] at hg
         obtain ⟨b,off,rfl,hR,hcells⟩:=fu_at hg (by omega)
         obtain ⟨pp,cp,pq,cq,hsp,hsc,e0,e1,e2,e3,e4⟩:=hcells k hlt
         have hkl:k<labels.length:=by have:=HLE.out;omega
         obtain ⟨rl,hcl,hnl⟩:=hri.ck.label' HRN.out (by have:=HLF.out;omega) k (by rw [List.length_append];omega)
         rw [List.getElem_append_left hkl] at hnl
         rw [List.drop_eq_getElem_cons hlt,List.drop_eq_getElem_cons hkl,laterM_cons] at hm
         have HSN:=hid hm;have HLT:=hid hlt;have HQ0:=hid hri;have HNL:=hid hnl;have HSC:=hid hsc;have HCL:=hid hcl
         clear hg hR hcells hsp hsc hm hk hri hnl hcl
         generalize C.p.funcs[k]=f at *
         generalize labels[k]=lb at *
         clear hlt hkl
         go_upto_region 36 with fail
         obtain ⟨bf,hbf⟩:∃ b,wx.heap.size=b:=⟨_,rfl⟩
         obtain ⟨wq,hwq⟩:∃ W,wx.alloc (.cells #[.string ⟨f.nm.toArray⟩,.slice pp f.params.length cp,.slice pq f.code.length cq,.int .i64 f.pos.1,.int .i64 f.pos.2] 74)=W:=⟨_,rfl⟩
         have hbw:Below wx.heap.size wx wq:=by rw [<- hwq];exact bA
         have HQ:=hid (show RI B w C (.slice (some ⟨bl,ol,none⟩) (C.p.funcs.length+1) cv) (rs++[r9]) ⟨C.p.chans,C.p.arrays.map Ar.nm,ss,cntL C.p.funcs,labels++[ml]⟩ b2 b3 wq from HQ0.below hbw)
         have HB0:=hid (show BxL 74 bf [.string ⟨f.nm.toArray⟩,.slice pp f.params.length cp,.slice pq f.code.length cq,.int .i64 f.pos.1,.int .i64 f.pos.2] wq from by rw [<- hwq,<- hbf];exact BxL.new _ _ _)
         have hcl:wq.cell? ⟨bl,ol+k,none⟩=some (.map (some rl)):=cellB hbw HCL.out lrf
         have HNQ:=hid (show NmS wq.drew rl lb from HNL.keep (hbw.block rl HNL.lt))
         have HSQ:=hid (show SlG kIn (·<wq.drew.heap.size) wq.drew (.slice pq f.code.length cq) f.code from (HSC.via HQ0.bel HQ.drew.bel).weaken fun k hk=>Nat.lt_of_lt_of_le hk HQ.ck.size)
         rw [hwq,hbf]
         have HQD:=hid HQ.drew
         have hS:(fun W=>W.cell? ⟨C.cb,9,none⟩=some (.slice (some ⟨bl,ol,none⟩) (C.p.funcs.length+1) cv)/\W.cell? ⟨bl,ol+k,none⟩=some (.map (some rl))/\W.cell? ⟨bf,2,none⟩=some (.slice pq f.code.length cq)) wq.drew:=⟨HQD.ck.box.at 9 rfl,hcl,HB0.at 2 rfl⟩
         clear hwq hbf e0 e1 e2 e3 e4 hcl hbw
         have hki:(k:Int)<(C.p.funcs.length:Int)+1:=by have:=HLT.out;omega
         cases htg:targetsM C.p lb f.code with
         | some fl =>
          have HF:=hid (show checkM C.p=fl from by rw [HM8.out];unfold ck5;rw [<- HSN.out,htg];rfl)
          have HN0:=hid (targets_ne0 _ _ htg)
          have hFa:∀ f,Fence.wide.fn f:=fun _=>trivial
          refine (wpIn_wide (n:=9)).1 ?_
          refine wpIn_onlyP (fun c w'=>RunPost B C.p w (.panicked c) w') (fun _ _ _ h=>h) ?_
          refine wpIn_region_HJ (fun W=>W.cell? ⟨C.cb,9,none⟩=some (.slice (some ⟨bl,ol,none⟩) (C.p.funcs.length+1) cv)/\W.cell? ⟨bl,ol+k,none⟩=some (.map (some rl))/\W.cell? ⟨bf,2,none⟩=some (.slice pq f.code.length cq)) 11 (by kernel_rfl) ?_
          simp only [zP,Nat.reduceAdd]
          iterate 10 (refine nxW (v:=?_) 11 hS ?_ ?_;rotate_left;(focus intro w' hS';obtain ⟨s0,s1,s2⟩:=hS';go_simp;try rfl);simp only [aP])
          refine oy 10 fun K hK=>?_
          go_simp
          (with_reducible refine (callsIn_wide.2 (targets_any C.p f.code lb (cntL C.p.funcs) _ C.cb C.mp rl wq.drew HSQ.out (HQD.out.ck.box.at 8 rfl) HQD.out.ck.pm HNQ.out (cnt_params C.p) (some fl) htg)).mono ?_)
          rintro e w9 ⟨rfl,hb9⟩
          exact ⟨rfl,RunPost.bad HF.out HN0.out (HQD.below hb9).bel⟩
         | none =>
          have HST:=hid (show laterM C.p (labels.drop (k+1)) (C.p.funcs.drop (k+1))=laterM C.p labels C.p.funcs from by rw [<- HSN.out,htg])
          have hFa:=fT
          refine rgN (fun W=>W.cell? ⟨C.cb,9,none⟩=some (.slice (some ⟨bl,ol,none⟩) (C.p.funcs.length+1) cv)/\W.cell? ⟨bl,ol+k,none⟩=some (.map (some rl))/\W.cell? ⟨bf,2,none⟩=some (.slice pq f.code.length cq)) 11 (by kernel_rfl) ?_
          simp only [zP,Nat.reduceAdd]
          iterate 10 (refine nxW (v:=?_) 11 hS ?_ ?_;rotate_left;(focus intro w' hS';obtain ⟨s0,s1,s2⟩:=hS';go_simp;try rfl);simp only [aP])
          refine oy 10 fun K hK=>?_
          go_simp
          (with_reducible refine (callsIn_wide.2 (targets_any C.p f.code lb (cntL C.p.funcs) _ C.cb C.mp rl wq.drew HSQ.out (HQD.out.ck.box.at 8 rfl) HQD.out.ck.pm HNQ.out (cnt_params C.p) none htg)).mono ?_)
          rintro e w9 ⟨rfl,hb9⟩
          have HR9:=hid (HQD.below hb9)
          have hS9:(fun W=>W.cell? ⟨C.cb,9,none⟩=some (.slice (some ⟨bl,ol,none⟩) (C.p.funcs.length+1) cv)/\W.cell? ⟨bl,ol+k,none⟩=some (.map (some rl))/\W.cell? ⟨bf,2,none⟩=some (.slice pq f.code.length cq)) w9:=⟨HR9.ck.box.at 9 rfl,cellB hb9 hS.2.1 lrf,cellB hb9 hS.2.2 lrf⟩
          refine hK _ _ (.inr (.inr hS9)) (dN ?_)
          clear hK K
          simp only [onlyN,Exit.then]
          clear hFa
          clear hki hS hS9
          go_wp2_with fail
          go_roundw
          case rel=>exact ⟨k+1,HLT.out,by rw [wrap_next HLT.out (by have:=HLF.out;omega)],HST.out,HR9.out⟩
          case measure=>exact meas_next HLT.out (by have:=HLF.out;omega)
        ·obtain rfl:k=C.p.funcs.length:=by omega
         rw [List.drop_length,laterM_nil] at hm
         have HCL:=hid (closed_later hm.symm)
         have HM9:=hid (show checkM C.p=ck6 C.p ml from by rw [HM8.out];unfold ck5;rw [<- hm];rfl)
         obtain ⟨rl,hcl,hnl⟩:=hri.ck.label' HRN.out (by have:=HLF.out;omega) C.p.funcs.length (by rw [List.length_append,HLE.out];exact Nat.lt_succ_self _)
         have hml:(labels++[ml])[C.p.funcs.length]'(by rw [List.length_append,HLE.out];exact Nat.lt_succ_self _)=ml:=by
          rw [List.getElem_append_right (by rw [HLE.out];exact Nat.le_refl _)]
          simp [HLE.out]
         rw [hml] at hnl
         have HQ:=hid hri;have HNL:=hid hnl;have HCE:=hid hcl
         have HSQ:=hid (show SlG kIn (·<wx.drew.heap.size) wx.drew (.slice pd C.p.main.length cd) C.p.main from (HMS.via HFQ.bel hri.drew.bel).weaken fun k hk=>Nat.lt_of_lt_of_le hk hri.ck.size)
         clear hlt hm hri hk HM8 hml hnl hcl
         go_upto_region 38 with fail
         have HNQ:=hid (show NmS wx.drew rl ml from HNL.out)
         have HQD:=hid HQ.drew
         have hki:(C.p.funcs.length:Int)<(C.p.funcs.length:Int)+1:=by omega
         have hS:(fun W=>W.cell? ⟨C.cb,9,none⟩=some (.slice (some ⟨bl,ol,none⟩) (C.p.funcs.length+1) cv)/\W.cell? ⟨bl,ol+C.p.funcs.length,none⟩=some (.map (some rl))/\W.cell? ⟨b3,4,none⟩=some (.slice pd C.p.main.length cd)/\W.cell? ⟨b3,3,none⟩=some (.slice pc C.p.funcs.length cc)) wx.drew:=⟨HQD.ck.box.at 9 rfl,HCE.out,by rw [<- HKD.out];exact HQD.pb.at 4 rfl,by rw [<- HKC.out];exact HQD.pb.at 3 rfl⟩
         cases htg:targetsM C.p ml C.p.main with
         | some fl =>
          have HF:=hid (show checkM C.p=fl from by rw [HM9.out];unfold ck6;rw [htg];rfl)
          have HN0:=hid (targets_ne0 _ _ htg)
          have hFa:∀ f,Fence.wide.fn f:=fun _=>trivial
          refine (wpIn_wide (n:=9)).1 ?_
          refine wpIn_onlyP (fun c w'=>RunPost B C.p w (.panicked c) w') (fun _ _ _ h=>h) ?_
          refine wpIn_region_HJ (fun W=>W.cell? ⟨C.cb,9,none⟩=some (.slice (some ⟨bl,ol,none⟩) (C.p.funcs.length+1) cv)/\W.cell? ⟨bl,ol+C.p.funcs.length,none⟩=some (.map (some rl))/\W.cell? ⟨b3,4,none⟩=some (.slice pd C.p.main.length cd)/\W.cell? ⟨b3,3,none⟩=some (.slice pc C.p.funcs.length cc)) 13 (by kernel_rfl) ?_
          simp only [zP,Nat.reduceAdd]
          iterate 12 (refine nxW (v:=?_) 13 hS ?_ ?_;rotate_left;(focus intro w' hS';obtain ⟨s0,s1,s2,s3⟩:=hS';go_simp;try rfl);simp only [aP])
          refine oy 12 fun K hK=>?_
          go_simp
          (with_reducible refine (callsIn_wide.2 (targets_any C.p C.p.main ml (cntL C.p.funcs) _ C.cb C.mp rl wx.drew HSQ.out (HQD.out.ck.box.at 8 rfl) HQD.out.ck.pm HNQ.out (cnt_params C.p) (some fl) htg)).mono ?_)
          rintro e w9 ⟨rfl,hb9⟩
          exact ⟨rfl,RunPost.bad HF.out HN0.out (HQD.below hb9).bel⟩
         | none =>
         have HMA:=hid (show checkM C.p=ck7 C.p from by rw [HM9.out];unfold ck6;rw [htg];rfl)
         have hFa:=fT
         refine rgN (fun W=>W.cell? ⟨C.cb,9,none⟩=some (.slice (some ⟨bl,ol,none⟩) (C.p.funcs.length+1) cv)/\W.cell? ⟨bl,ol+C.p.funcs.length,none⟩=some (.map (some rl))/\W.cell? ⟨b3,4,none⟩=some (.slice pd C.p.main.length cd)/\W.cell? ⟨b3,3,none⟩=some (.slice pc C.p.funcs.length cc)) 13 (by kernel_rfl) ?_
         simp only [zP,Nat.reduceAdd]
         iterate 12 (refine nxW (v:=?_) 13 hS ?_ ?_;rotate_left;(focus intro w' hS';obtain ⟨s0,s1,s2,s3⟩:=hS';go_simp;try rfl);simp only [aP])
         refine oy 12 fun K hK=>?_
         go_simp
         (with_reducible refine (callsIn_wide.2 (targets_any C.p C.p.main ml (cntL C.p.funcs) _ C.cb C.mp rl wx.drew HSQ.out (HQD.out.ck.box.at 8 rfl) HQD.out.ck.pm HNQ.out (cnt_params C.p) none htg)).mono ?_)
         rintro e w9 ⟨rfl,hb9⟩
         have HR9:=hid (HQD.below hb9)
         have hS9:(fun W=>W.cell? ⟨C.cb,9,none⟩=some (.slice (some ⟨bl,ol,none⟩) (C.p.funcs.length+1) cv)/\W.cell? ⟨bl,ol+C.p.funcs.length,none⟩=some (.map (some rl))/\W.cell? ⟨b3,4,none⟩=some (.slice pd C.p.main.length cd)/\W.cell? ⟨b3,3,none⟩=some (.slice pc C.p.funcs.length cc)) w9:=⟨cellB hb9 hS.1 lrf,cellB hb9 hS.2.1 lrf,cellB hb9 hS.2.2.1 lrf,cellB hb9 hS.2.2.2 lrf⟩
         refine hK _ _ (.inr (.inr hS9)) (dN ?_)
         clear hK K
         simp only [onlyN,Exit.then]
         clear hFa
         clear hki hS hS9 htg HM9 HSQ HNQ
         clear HQ HQD
         have x3:w9.cell? ⟨b3,3,none⟩=some (.slice pc C.p.funcs.length cc):=by rw [<- HKC.out];exact HR9.pb.at 3 rfl
         go_wp2_with fail
         go_loopw [17,184] (fun v17 iv wr=>∃ k:Nat,k<=C.p.funcs.length/\iv=.int .i64 (k:Int)/\loopsAllM C.p (C.p.funcs.drop k)=loopsAllM C.p C.p.funcs/\RI B w C (.slice (some ⟨bl,ol,none⟩) (C.p.funcs.length+1) cv) (rs++[r9]) ⟨C.p.chans,C.p.arrays.map Ar.nm,ss,cntL C.p.funcs,labels++[ml]⟩ b2 b3 wr) (fun _ iv _=>C.p.funcs.length - (intOf iv).toNat)
         case atStart=>exact ⟨0,Nat.zero_le _,rfl,rfl,HR9.out⟩
         case round =>
          obtain ⟨wv,rfl⟩:∃ W:World,W=wr:=⟨_,rfl⟩
          obtain ⟨k,hk,rfl,hm,hri⟩:=hrel
          by_cases hlt:k<C.p.funcs.length
          ·have hg:=hri.ck.pg.2.2.1
           rw [HKC.out] at hg
           obtain ⟨b,off,rfl,hR,hcells⟩:=fu_at hg (by omega)
           obtain ⟨pp,cp,pq,cq,hsp,hsc,e0,e1,e2,e3,e4⟩:=hcells k hlt
           rw [List.drop_eq_getElem_cons hlt,loopsAllM_cons] at hm
           have HNA:=hid (show C.p.funcs[k].nm ∈ namesP C.p from List.mem_map_of_mem (List.getElem_mem hlt))
           have HSN:=hid hm;have HLT:=hid hlt;have HQ0:=hid hri
           clear hg hR hcells hsp hsc hm hk hri
           generalize C.p.funcs[k]=f at *
           clear hlt
           go_upto_region 42 with fail
           obtain ⟨bf,hbf⟩:∃ b,wv.heap.size=b:=⟨_,rfl⟩
           obtain ⟨wq,hwq⟩:∃ W,wv.alloc (.cells #[.string ⟨f.nm.toArray⟩,.slice pp f.params.length cp,.slice pq f.code.length cq,.int .i64 f.pos.1,.int .i64 f.pos.2] 74)=W:=⟨_,rfl⟩
           have hbw:Below wv.heap.size wv wq:=by rw [<- hwq];exact bA
           have HQ:=hid (show RI B w C (.slice (some ⟨bl,ol,none⟩) (C.p.funcs.length+1) cv) (rs++[r9]) ⟨C.p.chans,C.p.arrays.map Ar.nm,ss,cntL C.p.funcs,labels++[ml]⟩ b2 b3 wq from HQ0.below hbw)
           have HB0:=hid (show BxL 74 bf [.string ⟨f.nm.toArray⟩,.slice pp f.params.length cp,.slice pq f.code.length cq,.int .i64 f.pos.1,.int .i64 f.pos.2] wq from by rw [<- hwq,<- hbf];exact BxL.new _ _ _)
           rw [hwq,hbf]
           have HQD:=hid HQ.drew
           have HPC:=hid (show SlG kFu (·<B) wq.drew C.c C.p.funcs from HQD.ck.pg.2.2.1)
           have hS:(fun W=>W.cell? ⟨bf,0,none⟩=some (.string ⟨f.nm.toArray⟩)/\W.cell? ⟨bf,3,none⟩=some (.int .i64 f.pos.1)/\W.cell? ⟨bf,4,none⟩=some (.int .i64 f.pos.2)) wq.drew:=⟨HB0.at 0 rfl,HB0.at 3 rfl,HB0.at 4 rfl⟩
           clear hwq hbf e0 e1 e2 e3 e4 hbw
           cases hlo:loopB C.p f.nm with
           | true =>
            have HF:=hid (show checkM C.p=(f.pos,9) from by rw [HMA.out];unfold ck7;rw [<- HSN.out,if_pos hlo];rfl)
            have hFa:∀ f,Fence.wide.fn f:=fun _=>trivial
            refine (wpIn_wide (n:=9)).1 ?_
            refine wpIn_onlyP (fun c w'=>RunPost B C.p w (.panicked c) w') (fun _ _ _ h=>h) ?_
            refine wpIn_region_HJ (fun W=>W.cell? ⟨bf,0,none⟩=some (.string ⟨f.nm.toArray⟩)/\W.cell? ⟨bf,3,none⟩=some (.int .i64 f.pos.1)/\W.cell? ⟨bf,4,none⟩=some (.int .i64 f.pos.2)) 8 (by kernel_rfl) ?_
            simp only [zP,Nat.reduceAdd]
            iterate 3 (refine nxW (v:=?_) 8 hS ?_ ?_;rotate_left;(focus intro w' hS';obtain ⟨s0,s1,s2⟩:=hS';go_simp;try rfl);simp only [aP])
            iterate 2 (refine nxW (v:=?_) 10 hS ?_ ?_;rotate_left;(focus intro w' hS';obtain ⟨s0,s1,s2⟩:=hS';go_simp;try rfl);simp only [aP])
            refine oy 3 fun K hK=>?_
            go_simp
            (with_reducible refine (callsIn_wide.2 (loops_any C.p C.cb B f.nm C.c wq.drew (HQD.out.ck.box.at 3 rfl) HPC.out HQD.out.ck.size (by have:=HLF.out;omega) HLL.out.2 HCL.out HNA.out)).mono ?_)
            rintro e w8 ⟨rfl,hb8⟩
            rw [hlo]
            have HR8:=hid (HQD.below hb8)
            have hS8:(fun W=>W.cell? ⟨bf,0,none⟩=some (.string ⟨f.nm.toArray⟩)/\W.cell? ⟨bf,3,none⟩=some (.int .i64 f.pos.1)/\W.cell? ⟨bf,4,none⟩=some (.int .i64 f.pos.2)) w8:=⟨cellB hb8 hS.1 lrf,cellB hb8 hS.2.1 lrf,cellB hb8 hS.2.2 lrf⟩
            refine hK _ _ (.inr (.inr hS8)) ?_
            clear hK K
            refine wpHJ_take (v:=?vl) 4 hFa rfl (by kernel_rfl) onlyP_put (Or.inl ⟨by rfl,?yl⟩) hS8 ?rl
            case yl=>(rintro w' ⟨s0,s1,s2⟩;go_simp;try rfl)
            simp only [aP]
            refine oy 7 fun K hK=>?_
            go_simp
            (with_reducible refine (callsIn_wide.2 (need_false f.pos 9 _)).mono ?_)
            rintro e w9 ⟨rfl,hb9⟩
            exact ⟨rfl,RunPost.bad HF.out (show (9:Int) ≠ 0 by decide) (HR8.below hb9).bel⟩
           | false =>
            have HST:=hid (show loopsAllM C.p (C.p.funcs.drop (k+1))=loopsAllM C.p C.p.funcs from by rw [<- HSN.out,if_neg (by rw [hlo];decide)])
            have hFa:=fT
            refine rgN (fun W=>W.cell? ⟨bf,0,none⟩=some (.string ⟨f.nm.toArray⟩)/\W.cell? ⟨bf,3,none⟩=some (.int .i64 f.pos.1)/\W.cell? ⟨bf,4,none⟩=some (.int .i64 f.pos.2)) 8 (by kernel_rfl) ?_
            simp only [zP,Nat.reduceAdd]
            iterate 3 (refine nxW (v:=?_) 8 hS ?_ ?_;rotate_left;(focus intro w' hS';obtain ⟨s0,s1,s2⟩:=hS';go_simp;try rfl);simp only [aP])
            iterate 2 (refine nxW (v:=?_) 10 hS ?_ ?_;rotate_left;(focus intro w' hS';obtain ⟨s0,s1,s2⟩:=hS';go_simp;try rfl);simp only [aP])
            refine oy 3 fun K hK=>?_
            go_simp
            (with_reducible refine (callsIn_wide.2 (loops_any C.p C.cb B f.nm C.c wq.drew (HQD.out.ck.box.at 3 rfl) HPC.out HQD.out.ck.size (by have:=HLF.out;omega) HLL.out.2 HCL.out HNA.out)).mono ?_)
            rintro e w8 ⟨rfl,hb8⟩
            rw [hlo]
            have HR8:=hid (HQD.below hb8)
            have hS8:(fun W=>W.cell? ⟨bf,0,none⟩=some (.string ⟨f.nm.toArray⟩)/\W.cell? ⟨bf,3,none⟩=some (.int .i64 f.pos.1)/\W.cell? ⟨bf,4,none⟩=some (.int .i64 f.pos.2)) w8:=⟨cellB hb8 hS.1 lrf,cellB hb8 hS.2.1 lrf,cellB hb8 hS.2.2 lrf⟩
            refine hK _ _ (.inr (.inr hS8)) ?_
            clear hK K
            refine wpHJ_take (v:=?vm) 4 hFa rfl (by kernel_rfl) nE (Or.inl ⟨by rfl,?ym⟩) hS8 ?rm
            case ym=>(rintro w' ⟨s0,s1,s2⟩;go_simp;try rfl)
            simp only [aP]
            refine oy 7 fun K hK=>?_
            go_simp
            (with_reducible refine (callsIn_wide.2 (need_true f.pos 9 _)).mono ?_)
            rintro e w9 ⟨rfl,hb9⟩
            have HR9:=hid (HR8.below hb9)
            have hS9:(fun W=>W.cell? ⟨bf,0,none⟩=some (.string ⟨f.nm.toArray⟩)/\W.cell? ⟨bf,3,none⟩=some (.int .i64 f.pos.1)/\W.cell? ⟨bf,4,none⟩=some (.int .i64 f.pos.2)) w9:=⟨cellB hb9 hS8.1 lrf,cellB hb9 hS8.2.1 lrf,cellB hb9 hS8.2.2 lrf⟩
            refine hK _ _ (.inr (.inr hS9)) (dN ?_)
            clear hK K
            simp only [onlyN,Exit.then]
            clear hFa
            clear hS hS9 hS8
            go_wp2_with fail
            go_roundw
            case rel=>exact ⟨k+1,HLT.out,by rw [wrap_next HLT.out (by have:=HLF.out;omega)],HST.out,HR9.out⟩
            case measure=>exact meas_next HLT.out (by have:=HLF.out;omega)
          ·obtain rfl:k=C.p.funcs.length:=by omega
           rw [List.drop_length] at hm
           have HF:=hid (show checkM C.p=((0,0),0) from by rw [HMA.out];unfold ck7;rw [<- hm];rfl)
           have HQ:=hid hri
           clear hlt hm hri hk
           go_wp2_with fail
           go_end0
           exact RunPost.ok HF.out HQ.bel
end Go.Proofs.YtoofbgoeipijcaaGreatDoor
