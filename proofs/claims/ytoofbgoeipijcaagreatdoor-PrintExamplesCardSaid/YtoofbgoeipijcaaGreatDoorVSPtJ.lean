/-
 A part.
-/
import Derived.Test.YtoofbgoeipijcaaGreatDoorVSPtI
namespace Go.Proofs.YtoofbgoeipijcaaGreatDoor
set_option linter.all false
open Go.RowKit Go.Shelf
attribute [local go_sem] Oper.semAt_some
section
variable {p:Pg} {code:List In} {x:In}
theorem rt_j (hk:x.kind=8\/x.kind=9):rtargetM p code x=if (code.any fun y=>decide (y.kind=10) && decide (y.nm=x.nm)) then none else some (x.pos,6):=by
 unfold rtargetM
 cases h:(code.any fun y=>decide (y.kind=10) && decide (y.nm=x.nm))
 ·rw [if_pos ⟨hk,rfl⟩];rfl
 ·rw [if_neg (by simp),if_neg (by omega)];rfl
theorem rt_c0 (hk:x.kind=4) (hf:findM p x.nm=none):rtargetM p code x=some (x.pos,6):=by
 unfold rtargetM
 rw [if_neg (by omega),if_pos hk,find_of_find,hf];rfl
theorem rt_c1 (hk:x.kind=4) {k:Nat} (hf:findM p x.nm=some k) (h:k<p.funcs.length):rtargetM p code x=if (p.funcs[k]).params.length=x.args.length then none else some (x.pos,4):=by
 unfold rtargetM
 rw [if_neg (by omega),if_pos hk,find_of_find,hf,Option.bind_some,List.getElem?_eq_getElem h]
theorem rt_o (hk:x.kind ≠ 8/\x.kind ≠ 9/\x.kind ≠ 4):rtargetM p code x=none:=by
 unfold rtargetM
 rw [if_neg (by omega),if_neg (by omega)]
end
theorem rtargets_cons (p:Pg) (code:List In) (x:In) (r:List In):rtargetsM p code (x :: r)=match rtargetM p code x with | some f=>some f | none=>rtargetsM p code r:=rfl
theorem any_next {α:Type} (P:α->Bool) (l:List α) (k:Nat) (h:k<l.length):(l.take (k+1)).any P=((l.take k).any P || P l[k]):=by
 rw [List.take_succ_eq_append_getElem h,List.any_append];simp
set_option maxRecDepth 100000 in
set_option maxHeartbeats 16000000 in
theorem rrefers_any (p:Pg) (a b c d:Value) (i:Nat) (w:World) (hp:PgV (·<w.heap.size) w a b c d p) (hi:i<=p.funcs.length) (hl:RLen p) :
  Calls Tryz.prog 135 #[.agg #[.int .i64 p.width,a,b,c,d],.int .i64 (i:Int)] w fun e w'=>e=.returned (.tuple #[posV ((rtargetsM p (bodyAt p i) (bodyAt p i)).getD ((0,0),0)).1,.int .i64 ((rtargetsM p (bodyAt p i) (bodyAt p i)).getD ((0,0),0)).2])/\Below w.heap.size w w':=by
 obtain ⟨pa,ca,hva⟩:=hp.1.slc
 obtain ⟨pb,cb,hvb⟩:=hp.2.1.slc
 obtain ⟨pc,cc,hvc⟩:=hp.2.2.1.slc
 obtain ⟨pd,cd,hvd⟩:=hp.2.2.2.slc
 subst hva hvb hvc hvd
 have HP:=hid hp
 have HCL:=hid (hl.body i hi)
 obtain ⟨code,hcode⟩:∃ L,bodyAt p i=L:=⟨_,rfl⟩
 rw [hcode] at HCL ⊢
 obtain ⟨r,hr⟩:∃ r,(rtargetsM p code code).getD ((0,0),0)=r:=⟨_,rfl⟩
 rw [hr]
 have HR:=hid hr;have HCD:=hid hcode
 clear hp hl hi hr hcode
 obtain ⟨wo,hwo⟩:∃ W,(w.alloc (.cells #[.int .i64 p.width,.slice pa p.chans.length ca,.slice pb p.arrays.length cb,.slice pc p.funcs.length cc,.slice pd p.main.length cd] 27)).alloc (.cells #[.int .i64 0,.int .i64 0] 39)=W:=⟨_,rfl⟩
 have HWO:=hid hwo
 have HXo:=hid (show BxL 27 w.heap.size [.int .i64 p.width,.slice pa p.chans.length ca,.slice pb p.arrays.length cb,.slice pc p.funcs.length cc,.slice pd p.main.length cd] wo from by rw [<- hwo];exact (BxL.new _ _ _).al _)
 have HZo:=hid (show BxL 39 (w.heap.size+1) [.int .i64 0,.int .i64 0] wo from by rw [<- hwo];have h:=BxL.new 39 (w.alloc (.cells #[.int .i64 p.width,.slice pa p.chans.length ca,.slice pb p.arrays.length cb,.slice pc p.funcs.length cc,.slice pd p.main.length cd] 27)) [.int .i64 0,.int .i64 0];rwa [sA] at h)
 have HBO:=hid (show Below w.heap.size w wo from by rw [<- hwo];exact (bA).alloc (by rw [sA];omega) _)
 have HGO:=hid (show PgV (·<wo.heap.size) wo (.slice pa p.chans.length ca) (.slice pb p.arrays.length cb) (.slice pc p.funcs.length cc) (.slice pd p.main.length cd) p from HP.below HBO.out)
 clear hwo
 obtain ⟨n0,n1,n2,n3,n4⟩:=HXo.c5
 go_enter Tryz.func135,Tryz.ntmps135
 go_upto_region 1 with fail
 rw [HWO.out]
 go_wp2_with (go_at_call 134;(refine (rbodyat_any p _ _ _ _ i _ _ HGO.out (fun _ h=>h)).mono ?_);rintro e w2 ⟨v2,rfl,hs,hb2⟩;rw [HCD.out] at hs;obtain ⟨pk,ck,rfl⟩:=hs.slc;have HB2:=hid (HBO.out.trans (hb2.mono HBO.out.size));have HC2:=hid (hs.weaken fun k hk=>Nat.lt_of_lt_of_le hk hb2.size:SlG kIn (·<w2.heap.size) w2 (.slice pk code.length ck) code);have HX2:=hid (HXo.out.bel hb2);have HZ2:=hid (HZo.out.bel hb2);have HG2:=hid (HGO.out.below hb2);clear hs hb2 n0 n1 n2 n3 n4)
 go_loopw [7,8,9,10,11] (fun iv u8 u9 u10 u11 wr=>∃ k:Nat,k<=code.length/\iv=.int .i64 (k:Int)/\rtargetsM p code (code.drop k)=rtargetsM p code code/\Below w2.heap.size w2 wr) (fun iv _ _ _ _ _=>code.length - (intOf iv).toNat)
 case atStart=>exact ⟨0,Nat.zero_le _,rfl,by rw [List.drop_zero],Below.refl _ _⟩
 case round =>
  obtain ⟨k,hk,rfl,hc,hbr⟩:=hrel
  obtain ⟨wi,rfl⟩:∃ wi:World,wi=wr:=⟨_,rfl⟩
  by_cases hlt:k<code.length
  ·obtain ⟨b,off,rfl,hRb,hcells⟩:=in_at HC2.out (by omega:0<code.length)
   have HCELLS:=hid hcells;have HRB:=hid hRb
   obtain ⟨pi,ci,hargs,q0,q1,q2,q3,q4,q5,q6⟩:=hcells k hlt
   replace q0:=(hbr.cell (p:=⟨b,off+k*7,none⟩) hRb).trans q0
   replace q1:=(hbr.cell (p:=⟨b,off+k*7+1,none⟩) hRb).trans q1
   replace q2:=(hbr.cell (p:=⟨b,off+k*7+2,none⟩) hRb).trans q2
   replace q3:=(hbr.cell (p:=⟨b,off+k*7+3,none⟩) hRb).trans q3
   replace q4:=(hbr.cell (p:=⟨b,off+k*7+4,none⟩) hRb).trans q4
   replace q5:=(hbr.cell (p:=⟨b,off+k*7+5,none⟩) hRb).trans q5
   replace q6:=(hbr.cell (p:=⟨b,off+k*7+6,none⟩) hRb).trans q6
   rw [List.drop_eq_getElem_cons hlt,rtargets_cons] at hc
   have HLT:=hid hlt;have HBr:=hid hbr
   have HXr:=hid (HX2.bel hbr);have HZr:=hid (HZ2.bel hbr)
   clear hcells hargs hRb hbr
   generalize code[k]=x at *
   clear hlt
   have HRF:=hid (show ∀ g,rtargetM p code x=some g->r=g from fun g e=>by rw [e] at hc;rw [<- HR.out,<- hc];rfl)
   have HRN:=hid (show rtargetM p code x=none->rtargetsM p code (code.drop (k+1))=rtargetsM p code code from fun e=>by rw [e] at hc;exact hc)
   clear hc
   have hlt:=HLT.out
   go_upto_region 6 with fail
   clear hlt
   obtain ⟨wx,hwx⟩:∃ W,wi.alloc (.cells #[.int .u8 (x.kind:Int),.int .u8 (x.op:Int),.string ⟨x.dst.toArray⟩,.string ⟨x.nm.toArray⟩,.slice pi x.args.length ci,.int .i64 x.pos.1,.int .i64 x.pos.2] 41)=W:=⟨_,rfl⟩
   have hbx:Below wi.heap.size wi wx:=by rw [<- hwx];exact bA
   have HUx:=hid (show BxL 41 (wi.heap.size) (inK (x.kind:Int) x (.slice pi x.args.length ci)) wx from by rw [<- hwx];exact BxL.new _ _ _)
   rw [hwx]
   have HBx:=hid (HBr.trans (hbx.mono HBr.size));have HXx:=hid (HXr.bel hbx);have HZx:=hid (HZr.bel hbx)
   clear hwx hbx q0 q1 q2 q3 q4 q5 q6
   go_cut [32] (fun s32 wy=>s32=.bool (decide (x.kind=8) || decide (x.kind=9))/\wy=wx)
   case first =>
    rcases (show x.kind=8\/x.kind=9\/(x.kind ≠ 8/\x.kind ≠ 9) by omega) with hkd | hkd | hkd
    ·have HKF:=hid hkd
     have m0:wx.cell? ⟨wi.heap.size,0,none⟩=some (.int .u8 8):=by rw [HUx.at 0 rfl,hkd];rfl
     clear hkd
     go_wp2_with fail
     go_meet
     case rel=>exact ⟨by show Value.bool _=Value.bool (decide (x.kind=8) || decide (x.kind=9));simp [HKF.out],rfl⟩
    ·have HKF:=hid hkd
     have m0:wx.cell? ⟨wi.heap.size,0,none⟩=some (.int .u8 9):=by rw [HUx.at 0 rfl,hkd];rfl
     clear hkd
     go_wp2_with fail
     go_meet
     case rel=>exact ⟨by show Value.bool _=Value.bool (decide (x.kind=8) || decide (x.kind=9));simp [HKF.out],rfl⟩
    ·have HKF:=hid hkd
     have m0:wx.cell? ⟨wi.heap.size,0,none⟩=some (.int .u8 (x.kind:Int)):=HUx.at 0 rfl
     have t8:((x.kind:Int) == 8)=false:=by rw [beq_eq_false_iff_ne];omega
     have t9:((x.kind:Int) == 9)=false:=by rw [beq_eq_false_iff_ne];omega
     clear hkd
     go_wp2_with fail
     go_meet
     case rel=>exact ⟨by show Value.bool _=Value.bool (decide (x.kind=8) || decide (x.kind=9));simp [HKF.1,HKF.2],rfl⟩
   case rest =>
   obtain ⟨hs1,rfl⟩:=hcut
   subst hs1
   obtain ⟨wx,rfl⟩:∃ W:World,W=wc:=⟨_,rfl⟩
   rcases (show (x.kind=8\/x.kind=9)\/(x.kind=4)\/(x.kind ≠ 8/\x.kind ≠ 9/\x.kind ≠ 4) by omega) with hkd | hkd | hkd
   ·have HST:=hid (rt_j (p:=p) (code:=code) hkd)
    have hbo:(decide (x.kind=8) || decide (x.kind=9))=true:=by simpa using hkd
    rw [hbo]
    have t4:((x.kind:Int) == 4)=false:=by rw [beq_eq_false_iff_ne];omega
    clear hkd hbo
    obtain ⟨tt,htt⟩:∃ tt,(code.any fun y=>decide (y.kind=10) && decide (y.nm=x.nm))=tt:=⟨_,rfl⟩
    rw [htt] at HST
    obtain ⟨P,hP⟩:∃ P:In->Bool,(fun y:In=>decide (y.kind=10) && decide (y.nm=x.nm))=P:=⟨_,rfl⟩
    rw [hP] at htt
    have HTT:=hid htt;have HP2:=hid hP
    clear htt hP
    obtain ⟨n0,n1,n2,n3,n4⟩:=HXx.c5
    obtain ⟨m0,m1,m2,m3,m4,m5,m6⟩:=HUx.c7
    obtain ⟨z0,z1,y0,y1⟩:=HZx.z2
    go_wp2_with fail
    go_loopw [9,10] (fun tv jv ws=>∃ j:Nat,j<=code.length/\jv=.int .i64 (j:Int)/\tv=.bool ((code.take j).any P)/\Below wx.heap.size wx ws) (fun _ jv _=>code.length - (intOf jv).toNat)
    case atStart=>exact ⟨0,Nat.zero_le _,rfl,by first | rfl | simp,Below.refl _ _⟩
    case round =>
     obtain ⟨j,hj,rfl,rfl,hbj⟩:=hrel
     obtain ⟨ta,hta⟩:∃ t,(code.take j).any P=t:=⟨_,rfl⟩
     rw [hta]
     have HTA:=hid hta
     have HBj:=hid hbj
     clear hta n0 n1 n2 n3 n4 m0 m1 m2 m3 m4 m5 m6 z0 z1 y0 y1
     by_cases hlj:j<code.length
     ·have HLJ:=hid hlj
      obtain ⟨pi2,ci2,_,e0,_,_,e3,_,_,_⟩:=HCELLS.out j hlj
      have e0:wr.drew.cell? ⟨b,off+j*7,none⟩=_:=((HBx.trans (hbj.mono HBx.size)).cell (p:=⟨b,off+j*7,none⟩) HRB.out).trans e0
      have e3:wr.drew.cell? ⟨b,off+j*7+3,none⟩=_:=((HBx.trans (hbj.mono HBx.size)).cell (p:=⟨b,off+j*7+3,none⟩) HRB.out).trans e3
      have e9:wr.drew.cell? ⟨wi.heap.size,3,none⟩=some (.string ⟨x.nm.toArray⟩):=(HUx.bel hbj).at 3 rfl
      have HNXT:=hid (any_next P code j hlj)
      obtain ⟨bb,hbb⟩:∃ bb,((code[j]).nm == x.nm)=bb:=⟨_,rfl⟩
      have HPY:=hid (show P code[j]=(decide ((code[j]).kind=10) && bb) from by rw [<- HP2.out,<- hbb];cases h:((code[j]).nm == x.nm) <;> simp_all)
      have HRG:=hid (show (code[j]).kind=10\/((((code[j]).kind:Nat):Int) == 10)=false from by by_cases h:(code[j]).kind=10;exact .inl h;exact .inr (by rw [beq_eq_false_iff_ne];omega))
      clear hbj
      go_upto_region 11 with fail
      generalize code[j]=y at *
      generalize y.nm=yn at *
      obtain ⟨xn,hxn⟩:∃ xn,x.nm=xn:=⟨_,rfl⟩
      rw [hxn] at e9 hbb
      clear hxn
      cases ta with
      | true =>
       obtain ⟨yk,hyk⟩:∃ yk,y.kind=yk:=⟨_,rfl⟩
       rw [hyk] at e0
       clear hyk hbb
       have hS:(fun W=>W.cell? ⟨b,off+j*7,none⟩=some (.int .u8 (yk:Int))/\W.cell? ⟨b,off+j*7+3,none⟩=some (.string ⟨yn.toArray⟩)/\W.cell? ⟨wi.heap.size,3,none⟩=some (.string ⟨xn.toArray⟩)) wr.drew:=⟨e0,e3,e9⟩
       clear e0 e3 e9
       have hFa:=fT
       refine rgN (fun W=>W.cell? ⟨b,off+j*7,none⟩=some (.int .u8 (yk:Int))/\W.cell? ⟨b,off+j*7+3,none⟩=some (.string ⟨yn.toArray⟩)/\W.cell? ⟨wi.heap.size,3,none⟩=some (.string ⟨xn.toArray⟩)) 20 (by kernel_rfl) ?_
       simp only [zP,Nat.reduceAdd]
       iterate 19 (refine wpHJ_nx (v:=?_) 20 rfl rfl (by kernel_rfl) nE hS ?_ ?_;rotate_left;(focus first | (refine Or.inr ⟨?_,?_⟩;(focus (simp [Region.wanted,yielded,undef];done));rfl) | (refine Or.inl ⟨?_,?_⟩;(focus (simp [Region.wanted,yielded,undef];done));intro w' hS';obtain ⟨s0,s1,s2⟩:=hS';go_simp;try rfl));simp only [aP])
       refine oy 19 fun K hK=>?_
       go_simp
       refine hK _ _ (.inr (.inr hS)) (dN ?_)
       clear hK K
       simp only [onlyN,Exit.then]
       clear hFa
       clear hS
       go_wp2_with fail
       go_roundw
       case rel=>exact ⟨j+1,HLJ.out,by first | (rw [wrap_next HLJ.out (by have:=HCL.out;omega)]) | rfl,by rw [HNXT.out,HTA.out];rfl,HBj.drew⟩
       case measure=>first | exact meas_next HLJ.out (by have:=HCL.out;omega) | (have h1:=HLJ.out;simp [intOf];omega)
      | false =>
       rcases HRG.out with hy | hy
       ·have HR1:=hid (show ((code.take (j+1)).any P)=bb from by rw [HNXT.out,HTA.out,HPY.out,hy];simp)
        have hS:(fun W=>W.cell? ⟨b,off+j*7,none⟩=some (.int .u8 10)/\W.cell? ⟨b,off+j*7+3,none⟩=some (.string ⟨yn.toArray⟩)/\W.cell? ⟨wi.heap.size,3,none⟩=some (.string ⟨xn.toArray⟩)) wr.drew:=⟨by rw [e0,hy];rfl,e3,e9⟩
        clear e0 e3 e9 hy
        have hFa:=fT
        refine rgN (fun W=>W.cell? ⟨b,off+j*7,none⟩=some (.int .u8 10)/\W.cell? ⟨b,off+j*7+3,none⟩=some (.string ⟨yn.toArray⟩)/\W.cell? ⟨wi.heap.size,3,none⟩=some (.string ⟨xn.toArray⟩)) 20 (by kernel_rfl) ?_
        simp only [zP,Nat.reduceAdd]
        iterate 19 (refine wpHJ_nx (v:=?_) 20 rfl rfl (by kernel_rfl) nE hS ?_ ?_;rotate_left;(focus refine Or.inl ⟨by simp [Region.wanted,yielded,undef],?_⟩;intro w' hS';obtain ⟨s0,s1,s2⟩:=hS';go_simp;try rfl);simp only [aP])
        refine oy 19 fun K hK=>?_
        go_simp
        refine hK _ _ (.inr (.inr hS)) (dN ?_)
        clear hK K
        simp only [onlyN,Exit.then]
        clear hFa
        clear hS
        go_wp2_with fail
        go_roundw
        case rel=>exact ⟨j+1,HLJ.out,by first | (rw [wrap_next HLJ.out (by have:=HCL.out;omega)]) | rfl,by rw [HR1.out],HBj.drew⟩
        case measure=>first | exact meas_next HLJ.out (by have:=HCL.out;omega) | (have h1:=HLJ.out;simp [intOf];omega)
       ·have HR1:=hid (show ((code.take (j+1)).any P)=false from by rw [HNXT.out,HTA.out,HPY.out];simp;intro h;rw [h] at hy;cases hy)
        obtain ⟨yk,hyk⟩:∃ yk,y.kind=yk:=⟨_,rfl⟩
        rw [hyk] at e0 hy
        clear hyk hbb
        have hS:(fun W=>W.cell? ⟨b,off+j*7,none⟩=some (.int .u8 (yk:Int))/\W.cell? ⟨b,off+j*7+3,none⟩=some (.string ⟨yn.toArray⟩)/\W.cell? ⟨wi.heap.size,3,none⟩=some (.string ⟨xn.toArray⟩)) wr.drew:=⟨e0,e3,e9⟩
        clear e0 e3 e9
        have hFa:=fT
        refine rgN (fun W=>W.cell? ⟨b,off+j*7,none⟩=some (.int .u8 (yk:Int))/\W.cell? ⟨b,off+j*7+3,none⟩=some (.string ⟨yn.toArray⟩)/\W.cell? ⟨wi.heap.size,3,none⟩=some (.string ⟨xn.toArray⟩)) 20 (by kernel_rfl) ?_
        simp only [zP,Nat.reduceAdd]
        iterate 19 (refine wpHJ_nx (v:=?_) 20 rfl rfl (by kernel_rfl) nE hS ?_ ?_;rotate_left;(focus first | (refine Or.inr ⟨?_,?_⟩;(focus (simp [Region.wanted,yielded,undef];done));rfl) | (refine Or.inl ⟨?_,?_⟩;(focus (simp [Region.wanted,yielded,undef];done));intro w' hS';obtain ⟨s0,s1,s2⟩:=hS';go_simp;try rfl));simp only [aP])
        refine oy 19 fun K hK=>?_
        go_simp
        refine hK _ _ (.inr (.inr hS)) (dN ?_)
        clear hK K
        simp only [onlyN,Exit.then]
        clear hFa
        clear hS
        go_wp2_with fail
        go_roundw
        case rel=>exact ⟨j+1,HLJ.out,by first | (rw [wrap_next HLJ.out (by have:=HCL.out;omega)]) | rfl,by rw [HR1.out],HBj.drew⟩
        case measure=>first | exact meas_next HLJ.out (by have:=HCL.out;omega) | (have h1:=HLJ.out;simp [intOf];omega)
     ·obtain rfl:j=code.length:=by omega
      have HTE:=hid (show ta=tt from by rw [<- HTA.out,<- HTT.out,List.take_length])
      have HBy:=hid (HBx.trans ((HBj.out).mono HBx.size))
      have HXy:=hid (HXx.bel (HBj.out))
      have HZy:=hid (HZx.bel (HBj.out))
      have HUy:=hid (HUx.bel (HBj.out))
      clear hlj hbj
      obtain ⟨n0,n1,n2,n3,n4⟩:=HXy.c5
      obtain ⟨m0,m1,m2,m3,m4,m5,m6⟩:=HUy.c7
      obtain ⟨z0,z1,y0,y1⟩:=HZy.z2
      cases ta with
      | true =>
       have HTF:=HTE.out
       subst HTF
       go_wp2_with fail
       go_roundw
       case rel=>exact ⟨k+1,HLT.out,by first | (rw [wrap_next HLT.out (by have:=HCL.out;omega)]) | rfl,HRN.out (by rw [HST.out];rfl),HBy.out⟩
       case measure=>first | exact meas_next HLT.out (by have:=HCL.out;omega) | (have h1:=HLT.out;simp [intOf];omega)
      | false =>
       have HTF:=HTE.out
       subst HTF
       have HRR:=hid (HRF.out (x.pos,6) (by rw [HST.out];rfl))
       go_wp2_with fail
       obtain ⟨d0,d1⟩:=pos_two HZy.out (.int .i64 x.pos.1) (.int .i64 x.pos.2)
       (try simp only [Exit.inBlock,Exit.then])
       refine bodyPost_ret (v := .tuple #[.agg #[.int .i64 x.pos.1,.int .i64 x.pos.2],.int .i64 6]) (by simp [results,Tryz.results135,go_sem,d0,d1]) rfl ?_
       have h9:=HRR.out
       subst h9
       have hfin:=fun v0 v1=>((HB2.trans (HBy.mono HB2.size)).setCell (p:=⟨w.heap.size+1,0,none⟩) (by show _<=_+1;omega) v0).setCell (p:=⟨w.heap.size+1,1,none⟩) (by show _<=_+1;omega) v1
       first | exact ⟨rfl,hfin _ _⟩ | exact ⟨rfl,(hfin _ _).drew⟩ | exact ⟨rfl,(hfin _ _).drew.drew⟩
   ·have hbo:(decide (x.kind=8) || decide (x.kind=9))=false:=by simp [hkd]
    rw [hbo]
    clear hbo
    have HKD:=hid hkd
    have hkI:(x.kind:Int)=4:=by omega
    replace HUx:=hid (show BxL 41 (wi.heap.size) (inK 4 x (.slice pi x.args.length ci)) wx from by have h:=HUx.out;rw [hkI] at h;exact h)
    clear hkI
    obtain ⟨n0,n1,n2,n3,n4⟩:=HXx.c5
    obtain ⟨m0,m1,m2,m3,m4,m5,m6⟩:=HUx.c7
    obtain ⟨z0,z1,y0,y1⟩:=HZx.z2
    have HGX:=hid (HG2.below HBx.out)
    cases hfi:findM p x.nm with
    | none =>
     have HRR:=hid (HRF.out _ (rt_c0 hkd hfi))
     have HFI:=hid (show Calls Tryz.prog 173 #[.agg #[.int .i64 p.width,.slice pa p.chans.length ca,.slice pb p.arrays.length cb,.slice pc p.funcs.length cc,.slice pd p.main.length cd],.string ⟨x.nm.toArray⟩] wx (fun e w'=>e=.returned (.int .i64 (-1))/\Below wx.heap.size wx w') from by have h:=rfind_any p _ _ _ _ x.nm wx HGX.out;rw [hfi] at h;exact h)
     clear hkd hfi
     go_wp2_with (go_at_call 173;(with_reducible refine HFI.out.mono ?_);rintro e w3 ⟨rfl,hb3⟩;have HB3:=hid (HBx.out.trans ((hb3).mono HBx.out.size));have HX3:=hid (HXx.out.bel (hb3));have HZ3:=hid (HZx.out.bel (hb3));have HU3:=hid (HUx.out.bel (hb3));clear hb3 n0 n1 n2 n3 n4 m0 m1 m2 m3 m4 m5 m6 z0 z1 y0 y1;obtain ⟨n0,n1,n2,n3,n4⟩:=HX3.out.c5;obtain ⟨m0,m1,m2,m3,m4,m5,m6⟩:=HU3.out.c7;obtain ⟨z0,z1,y0,y1⟩:=HZ3.out.z2)
     obtain ⟨d0,d1⟩:=pos_two HZ3.out (.int .i64 x.pos.1) (.int .i64 x.pos.2)
     (try simp only [Exit.inBlock,Exit.then])
     refine bodyPost_ret (v := .tuple #[.agg #[.int .i64 x.pos.1,.int .i64 x.pos.2],.int .i64 6]) (by simp [results,Tryz.results135,go_sem,d0,d1]) rfl ?_
     have h9:=HRR.out
     subst h9
     have hfin:=fun v0 v1=>((HB2.trans (HB3.mono HB2.size)).setCell (p:=⟨w.heap.size+1,0,none⟩) (by show _<=_+1;omega) v0).setCell (p:=⟨w.heap.size+1,1,none⟩) (by show _<=_+1;omega) v1
     first | exact ⟨rfl,hfin _ _⟩ | exact ⟨rfl,(hfin _ _).drew⟩ | exact ⟨rfl,(hfin _ _).drew.drew⟩
    | some g =>
     have hg:=find_lt hfi
     have HST:=hid (rt_c1 (code:=code) hkd hfi hg)
     have HFI:=hid (show Calls Tryz.prog 173 #[.agg #[.int .i64 p.width,.slice pa p.chans.length ca,.slice pb p.arrays.length cb,.slice pc p.funcs.length cc,.slice pd p.main.length cd],.string ⟨x.nm.toArray⟩] wx (fun e w'=>e=.returned (.int .i64 (g:Int))/\Below wx.heap.size wx w') from by have h:=rfind_any p _ _ _ _ x.nm wx HGX.out;rw [hfi] at h;exact h)
     have hg0:decide ((g:Int)<0)=false:=by simp
     clear hkd hfi
     go_upto_region 18 with (go_at_call 173;(with_reducible refine HFI.out.mono ?_);rintro e w3 ⟨rfl,hb3⟩;have HB3:=hid (HBx.out.trans ((hb3).mono HBx.out.size));have HX3:=hid (HXx.out.bel (hb3));have HZ3:=hid (HZx.out.bel (hb3));have HU3:=hid (HUx.out.bel (hb3));clear hb3 n0 n1 n2 n3 n4 m0 m1 m2 m3 m4 m5 m6 z0 z1 y0 y1;obtain ⟨n0,n1,n2,n3,n4⟩:=HX3.out.c5;obtain ⟨m0,m1,m2,m3,m4,m5,m6⟩:=HU3.out.c7;obtain ⟨z0,z1,y0,y1⟩:=HZ3.out.z2)
     clear n0 n1 n2 n3 n4 m0 m1 m2 m3 m4 m5 m6 z0 z1 y0 y1 hg0
     obtain ⟨fb,fo,hpc,hRf,hcf⟩:=fu_at HG2.2.2.1 (by omega:0<p.funcs.length)
     obtain ⟨pp,cp,pq,cq,hpar,hcode,f0,f1,f2,f3,f4⟩:=hcf g hg
     have hS0:w3.drew.cell? ⟨w.heap.size,3,none⟩=some (.slice pc p.funcs.length cc):=HX3.at 3 rfl
     subst hpc
     obtain ⟨nP,hnP⟩:∃ n,(p.funcs[g]).params.length=n:=⟨_,rfl⟩
     obtain ⟨nA,hnA⟩:∃ n,x.args.length=n:=⟨_,rfl⟩
     have hS2:w3.drew.cell? ⟨wi.heap.size,4,none⟩=some (.slice pi x.args.length ci):=HU3.at 4 rfl
     rw [hnP,hnA] at HST
     rw [hnP] at f1
     rw [hnA] at hS2
     have hS:(fun W=>W.cell? ⟨w.heap.size,3,none⟩=some (.slice (some ⟨fb,fo,none⟩) p.funcs.length cc)/\W.cell? ⟨fb,fo+g*5+1,none⟩=some (.slice pp nP cp)/\W.cell? ⟨wi.heap.size,4,none⟩=some (.slice pi nA ci)) w3.drew:=⟨hS0,(HB3.cell (p:=⟨fb,fo+g*5+1,none⟩) hRf).trans f1,hS2⟩
     have HNP:=hid hnP;have HNA:=hid hnA
     clear hnP hnA hpar hcode f0 f1 f2 f3 f4 hcf hRf hS0 hS2
     have HB4:=hid (HB3.trans (((Below.refl _ _).drew:Below w3.heap.size w3 w3.drew).mono HB3.size));have HX4:=hid (HX3.bel ((Below.refl _ _).drew:Below w3.heap.size w3 w3.drew));have HZ4:=hid (HZ3.bel ((Below.refl _ _).drew:Below w3.heap.size w3 w3.drew));have HU4:=hid (HU3.bel ((Below.refl _ _).drew:Below w3.heap.size w3 w3.drew))
     obtain ⟨bb,hbb⟩:∃ bb,((nP:Int) != (nA:Int))=bb:=⟨_,rfl⟩
     have HBB:=hid hbb
     have hFa:=fT
     refine rgN (fun W=>W.cell? ⟨w.heap.size,3,none⟩=some (.slice (some ⟨fb,fo,none⟩) p.funcs.length cc)/\W.cell? ⟨fb,fo+g*5+1,none⟩=some (.slice pp nP cp)/\W.cell? ⟨wi.heap.size,4,none⟩=some (.slice pi nA ci)) 11 (by kernel_rfl) ?_
     simp only [zP,Nat.reduceAdd]
     iterate 10 (refine nxW (v:=?_) 11 hS ?_ ?_;rotate_left;(focus intro w' hS';obtain ⟨s0,s1,s2⟩:=hS';go_simp;try rfl);simp only [aP])
     refine oy 10 fun K hK=>?_
     go_simp
     refine hK _ _ (.inr (.inr hS)) (dN ?_)
     clear hK K
     simp only [onlyN,Exit.then]
     clear hFa
     clear hS hbb
     obtain ⟨n0,n1,n2,n3,n4⟩:=HX3.c5
     obtain ⟨m0,m1,m2,m3,m4,m5,m6⟩:=HU3.c7
     obtain ⟨z0,z1,y0,y1⟩:=HZ3.z2
     cases bb with
     | true =>
      have hne:nP ≠ nA:=fun e=>by have h:=HBB.out;rw [e] at h;simp at h
      have HRR:=hid (HRF.out (x.pos,4) (by rw [HST.out,if_neg hne]))
      clear hne
      go_wp2_with fail
      obtain ⟨d0,d1⟩:=pos_two HZ3.out (.int .i64 x.pos.1) (.int .i64 x.pos.2)
      (try simp only [Exit.inBlock,Exit.then])
      refine bodyPost_ret (v := .tuple #[.agg #[.int .i64 x.pos.1,.int .i64 x.pos.2],.int .i64 4]) (by simp [results,Tryz.results135,go_sem,d0,d1]) rfl ?_
      have h9:=HRR.out
      subst h9
      have hfin:=fun v0 v1=>((HB2.trans (HB3.mono HB2.size)).setCell (p:=⟨w.heap.size+1,0,none⟩) (by show _<=_+1;omega) v0).setCell (p:=⟨w.heap.size+1,1,none⟩) (by show _<=_+1;omega) v1
      first | exact ⟨rfl,hfin _ _⟩ | exact ⟨rfl,(hfin _ _).drew⟩ | exact ⟨rfl,(hfin _ _).drew.drew⟩
     | false =>
      have heq:nP=nA:=by have h:=HBB.out;simp at h;omega
      have HOK:=hid (show rtargetM p code x=none from by rw [HST.out,if_pos heq])
      clear heq
      go_wp2_with fail
      go_roundw
      case rel=>exact ⟨k+1,HLT.out,by first | (rw [wrap_next HLT.out (by have:=HCL.out;omega)]) | rfl,HRN.out (HOK.out),HB4.out⟩
      case measure=>first | exact meas_next HLT.out (by have:=HCL.out;omega) | (have h1:=HLT.out;simp [intOf];omega)
   ·have hbo:(decide (x.kind=8) || decide (x.kind=9))=false:=by simp [hkd.1,hkd.2.1]
    rw [hbo]
    clear hbo
    have t4:((x.kind:Int) == 4)=false:=by rw [beq_eq_false_iff_ne];omega
    have HST:=hid (rt_o (p:=p) (code:=code) hkd)
    clear hkd
    obtain ⟨n0,n1,n2,n3,n4⟩:=HXx.c5
    obtain ⟨m0,m1,m2,m3,m4,m5,m6⟩:=HUx.c7
    obtain ⟨z0,z1,y0,y1⟩:=HZx.z2
    go_wp2_with fail
    go_roundw
    case rel=>exact ⟨k+1,HLT.out,by first | (rw [wrap_next HLT.out (by have:=HCL.out;omega)]) | rfl,HRN.out (HST.out),HBx.out⟩
    case measure=>first | exact meas_next HLT.out (by have:=HCL.out;omega) | (have h1:=HLT.out;simp [intOf];omega)
  ·obtain rfl:k=code.length:=by omega
   have HRR:=hid (show r=((0,0),0) from by rw [<- HR.out,<- hc,List.drop_length];rfl)
   have HBr:=hid hbr;have HZr:=hid (HZ2.bel hbr)
   clear hlt hbr hc
   obtain ⟨z0,z1,y0,y1⟩:=HZr.z2
   go_wp2_with fail
   obtain ⟨d0,d1⟩:=pos_two HZr.out (.int .i64 0) (.int .i64 0)
   (try simp only [Exit.inBlock,Exit.then])
   refine bodyPost_ret (v := .tuple #[.agg #[.int .i64 0,.int .i64 0],.int .i64 0]) (by simp [results,Tryz.results135,go_sem,d0,d1]) rfl ?_
   have h9:=HRR.out
   subst h9
   have hfin:=fun v0 v1=>((HB2.trans (HBr.mono HB2.size)).setCell (p:=⟨w.heap.size+1,0,none⟩) (by show _<=_+1;omega) v0).setCell (p:=⟨w.heap.size+1,1,none⟩) (by show _<=_+1;omega) v1
   first | exact ⟨rfl,hfin _ _⟩ | exact ⟨rfl,(hfin _ _).drew⟩ | exact ⟨rfl,(hfin _ _).drew.drew⟩
end Go.Proofs.YtoofbgoeipijcaaGreatDoor
