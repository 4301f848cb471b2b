/-
 The law ParseGood: its walk.
-/
import Derived.Test.YtoofbgoeipijcaaGreatDoorYSPwG
namespace Go.Proofs.YtoofbgoeipijcaaGreatDoor
set_option linter.unusedSimpArgs false
set_option linter.unusedVariables false
open Go.RowKit Go.Shelf
attribute [local go_sem] Oper.semAt_some
theorem read_check {s:Bs} {p:Pg} (h:parseE s = .ok p):checkM p=((0,0),0):=by
 have hc:=(parse_cd h).2.1
 unfold parseE at h
 split at h
 ·cases h
 ·rename_i hl
  split at h
  ·cases h
  ·rename_i o ho
   obtain ⟨S,hS,h⟩:=bindE h;obtain ⟨u,h2,h⟩:=bindE h;obtain ⟨u',h3,h⟩:=bindE h
   have e:=pureE h
   subst e
   obtain ⟨hk,hs⟩:=lines_ck o ck0 siv0 hS
   have hn:S.inn=3:=of_decide_eq_true (needM_ok h2)
   obtain ⟨ls,ml,e⟩:=check_late hk hs hn
   rw [e] at hc ⊢
   have no:∀ {f:Flt},lateC f->f.2 ≠ 0:=fun {f} h=>by rcases h with h | h | h <;> rw [h] <;> decide
   split
   ·rename_i f hf;rw [hf] at hc;exact absurd hc (no (later_pos (Q:=fun _=>True) _ _ (fun _ _ _ _=>trivial) hf).2)
   ·rename_i hf
    rw [hf] at hc
    dsimp only at hc
    split
    ·rename_i f hg;rw [hg] at hc;exact absurd hc (no (targets_pos (Q:=fun _=>True) _ (fun _ _=>trivial) hg).2)
    ·rename_i hg
     rw [hg] at hc
     dsimp only at hc
     split
     ·rename_i f hl;rw [hl] at hc;exact absurd hc (no (loops_pos (Q:=fun _=>True) _ (fun _ _=>trivial) hl).2)
     ·rfl
set_option maxRecDepth 100000 in
set_option maxHeartbeats 4000000 in
theorem good_ok (l:Bs) (sb:ByteArray) (m:Int) (w:World) (hE:PrE0 w) (hm:w.cell? ⟨0,0,none⟩=some (.int .i64 m)) (hsb:sb.extract 0 (min (↑sb.size) 3000:Int).toNat=⟨l.toArray⟩) (hl:l.length<=3000) {p:Pg} (hp:parseE l = .ok p) :
  Calls Tryz.prog 8 #[.string sb] w fun e w'=>e = .returned (.bool true)/\Below w.heap.size w w':=by
 have HE:=hid hE;have HM:=hid hm
 have HMB:=hid (show ∀ W,Below w.heap.size w W->W.cell? ⟨0,0,none⟩=some (.int .i64 m) from fun W hb=>(hb.cell (p:=⟨_,_,none⟩) (cell_size HM.out)).trans HM.out)
 have HIN:=hid (read_in hp);have HCK:=hid (read_check hp);have HCD:=hid (parse_cd hp).1
 obtain ⟨NR,hNR⟩:∃ n,(rowsNL l).length=n:=⟨_,rfl⟩
 have HNR:=hid hNR
 have HNL:=hid (show NR<=70000 from by rw [<- hNR,(rows_end l.length l lrf).1];have:=List.count_le_length (a:=(10:UInt8)) (l:=l);omega)
 have HPA:=hid (show Calls Tryz.prog 28 #[.string ⟨l.toArray⟩] w (fun e w'=>(∃ pa pb pc pd xa xb xc xd,e = .returned (.tuple #[.agg #[.int .i64 p.width,.slice pa p.chans.length xa,.slice pb p.arrays.length xb,.slice pc p.funcs.length xc,.slice pd p.main.length xd],.agg #[.int .i64 0,.int .i64 0],.int .i64 0])/\PgV (·<w'.heap.size) w' (.slice pa p.chans.length xa) (.slice pb p.arrays.length xb) (.slice pc p.funcs.length xc) (.slice pd p.main.length xd) p)/\Below w.heap.size w w') from by
  refine (parse_any l m w HE.out HM.out).mono ?_
  rintro e w' ⟨hb,a,b,c,d,he,hq⟩
  rw [parse_read hp] at he hq
  obtain ⟨pa,xa,h1⟩:=hq.1.slc
  obtain ⟨pb,xb,h2⟩:=hq.2.1.slc
  obtain ⟨pc,xc,h3⟩:=hq.2.2.1.slc
  obtain ⟨pd,xd,h4⟩:=hq.2.2.2.slc
  subst h1 h2 h3 h4
  exact ⟨⟨pa,pb,pc,pd,xa,xb,xc,xd,he,hq⟩,hb⟩)
 have HLL:=hid hl;have HSB:=hid hsb
 clear hE hm hp hNR hl hsb
 go_enter Tryz.func8,Tryz.ntmps8
 go_upto_region 2 with fail
 rw [HSB.out]
 go_upto_region 3 with (go_at_call 28;(with_reducible refine HPA.out.mono ?_);rintro e w1 ⟨⟨pa,pb,pc,pd,xa,xb,xc,xd,rfl,hq⟩,hb⟩;have HB1:=hid hb;have HQ1:=hid hq;clear hb hq)
 obtain ⟨w2,hw2⟩:∃ W,(w1.alloc (.cells #[.int .i64 p.width,.slice pa p.chans.length xa,.slice pb p.arrays.length xb,.slice pc p.funcs.length xc,.slice pd p.main.length xd] 27)).alloc (.cells #[.int .i64 0,.int .i64 0] 39)=W:=⟨_,rfl⟩
 have hb2:Below w1.heap.size w1 w2:=by rw [<- hw2];exact (bA).alloc (by rw [World.size_alloc];omega) _
 have HX2:=hid (show BxL 27 w1.heap.size [.int .i64 p.width,.slice pa p.chans.length xa,.slice pb p.arrays.length xb,.slice pc p.funcs.length xc,.slice pd p.main.length xd] w2 from by rw [<- hw2];exact (BxL.new _ _ _).al _)
 have HY2:=hid (show BxL 39 (w1.heap.size+1) [.int .i64 0,.int .i64 0] w2 from by rw [<- hw2];have h9:=BxL.new 39 (w1.alloc (.cells #[.int .i64 p.width,.slice pa p.chans.length xa,.slice pb p.arrays.length xb,.slice pc p.funcs.length xc,.slice pd p.main.length xd] 27)) [.int .i64 0,.int .i64 0];rw [World.size_alloc] at h9;exact h9)
 rw [hw2]
 have HB2:=hid (HB1.trans (hb2.mono HB1.size));have HQ2:=hid (HQ1.below hb2)
 clear hb2 hw2
 have HSP:=hid (split_any l m w2 (by have:=HLL.out;omega) (HMB.out _ HB2.out))
 rw [HNR.out] at HSP
 go_upto_region 4 with (go_at_call 33;(with_reducible refine HSP.out.mono ?_);rintro e w3 ⟨rfl,hz,hb⟩;have HB3:=hid (HB2.out.trans (hb.mono HB2.out.size));have HX3:=hid (HX2.out.bel hb);have HY3:=hid (HY2.out.bel hb);have HZ3:=hid hz;have HQ3:=hid (HQ2.out.below hb);clear hb hz)
 have n0:=HX3.at 0 rfl;have n1:=HX3.at 1 rfl;have n2:=HX3.at 2 rfl;have n3:=HX3.at 3 rfl;have n4:=HX3.at 4 rfl
 have HCC:=hid (show Calls Tryz.prog 34 #[.agg #[.int .i64 p.width,.slice pa p.chans.length xa,.slice pb p.arrays.length xb,.slice pc p.funcs.length xc,.slice pd p.main.length xd]] w3 (fun e w'=>e = .returned (.tuple #[.agg #[.int .i64 0,.int .i64 0],.int .i64 0])/\Below w3.heap.size w3 w') from by have h:=check_k p _ _ _ _ w3 (HE.below HB3.out) HQ3.out HCD.pg;rw [HCK.out] at h;exact h)
 go_upto_region 7 with (go_at_call 34;(with_reducible refine HCC.out.mono ?_);rintro e w4 ⟨rfl,hb⟩;have HB4:=hid (HB3.out.trans (hb.mono HB3.out.size));have HX4:=hid (HX3.out.bel hb);have HY4:=hid (HY3.out.bel hb);have HZ4:=hid (HZ3.out.bel hb);have HQ4:=hid (HQ3.out.below hb);clear hb n0 n1 n2 n3 n4)
 obtain ⟨w5,hw5⟩:∃ W,w4.alloc (.cells #[.int .i64 0,.int .i64 0] 39)=W:=⟨_,rfl⟩
 have hb5:Below w4.heap.size w4 w5:=by rw [<- hw5];exact bA
 have HT5:=hid (show BxL 39 w4.heap.size [.int .i64 0,.int .i64 0] w5 from by rw [<- hw5];exact BxL.new _ _ _)
 rw [hw5]
 have HB5:=hid (HB4.trans (hb5.mono HB4.size));have HX5:=hid (HX4.bel hb5);have HY5:=hid (HY4.bel hb5);have HZ5:=hid (HZ4.bel hb5);have HQ5:=hid (HQ4.below hb5)
 clear hb5 hw5
 go_wp2_with fail
 obtain ⟨ML,hML⟩:∃ n,p.main.length=n:=⟨_,rfl⟩
 have HML:=hid hML
 have HLEN:=hid (show ML<=140737488355328 from by rw [<- hML];exact HQ5.2.2.2.len)
 clear hML
 go_loopw [9,10] (fun iv u10 wr=>∃ i:Nat,i<=ML/\iv = .int .i64 (i:Int)/\Below w5.heap.size w5 wr) (fun iv _ _=>ML - (intOf iv).toNat)
 case atStart=>exact ⟨0,Nat.zero_le _,rfl,Below.refl _ _⟩
 case round =>
  obtain ⟨i,hi,rfl,hbr⟩:=hrel
  have n4:=(HX5.bel hbr).at 4 rfl
  rw [HML.out] at n4
  by_cases hlt:i<ML
  ·have t1:decide ((i:Int)<(ML:Int))=true:=decide_eq_true (by omega)
   have hmi:i<p.main.length:=by rw [HML.out];exact hlt
   obtain ⟨bm,om,hpd,hRm,hcm⟩:=in_at HQ5.2.2.2 (by omega:0<p.main.length)
   subst hpd
   obtain ⟨q8,q9,-,-,-,-,-,-,k5,k6⟩:=hcm i hmi
   have hin:=HIN.1 _ (List.getElem_mem hmi)
   obtain ⟨j,c,hj,hpos,hcl⟩:=hin
   obtain ⟨⟨X0,X1⟩,hX⟩:∃ q,(p.main[i]'hmi).pos=q:=⟨_,rfl⟩
   rw [hX] at k5 k6 hpos
   injection hpos with hL hC
   dsimp only at k5 k6
   have k5:=(hbr.cell (p:=⟨bm,_,none⟩) hRm).trans k5
   have k6:=(hbr.cell (p:=⟨bm,_,none⟩) hRm).trans k6
   obtain ⟨rj,hrj⟩:∃ r,(rowsNL l)[j]'hj=r:=⟨_,rfl⟩
   have HRJ:=hid (show ((rowsNL l).map fun r=>Value.string ⟨r.toArray⟩)[j]?=some (.string ⟨rj.toArray⟩) from by rw [List.getElem?_map,List.getElem?_eq_getElem hj,hrj];rfl)
   rw [hrj] at hcl
   have hjn:j<NR:=by rw [<- HNR.out];exact hj
   have HRM:=hid hRm;have HCM:=hid hcm;have HMI:=hid hmi;have HL:=hid hL;have HC:=hid hC;have HCL:=hid hcl;have HXP:=hid (show ∀ h:i<p.main.length,(p.main[i]'h).pos=(X0,X1) from fun _=>hX);have HBR:=hid hbr;have HLT:=hid hlt;have HJN:=hid hjn
   clear hRm hcm hmi hL hC hcl hX hj hrj hlt hi
   go_upto_region 11 with fail
   obtain ⟨wx,hwx⟩:∃ W,wr.alloc (.cells #[.int .i64 X0,.int .i64 X1] 39)=W:=⟨_,rfl⟩
   have hbx:Below wr.heap.size wr wx:=by rw [<- hwx];exact bA
   have HTX:=hid (show BxL 39 wr.heap.size [.int .i64 X0,.int .i64 X1] wx from by rw [<- hwx];exact BxL.new _ _ _)
   rw [hwx]
   have HBX:=hid (show Below w5.heap.size w5 wx from hbr.trans (hbx.mono hbr.size))
   clear hwx hbx hbr k5 k6 n4
   obtain ⟨RL,hRL⟩:∃ n,rj.length=n:=⟨_,rfl⟩
   rw [hRL] at HCL
   have e1:decide (X0<1)=false:=decide_eq_false (by have:=HL.out;omega)
   have e2:decide ((NR:Int)<X0)=false:=decide_eq_false (by have:=HL.out;have:=HJN.out;omega)
   have e3:decide (X1<1)=false:=decide_eq_false (by have:=HC.out;omega)
   have e6:IntKind.i64.wrap (X0 - 1)=(j:Int):=by have:=HL.out;rw [show X0 - 1=(j:Int) by omega];exact IntWalk.i64_in _ (by have:=HJN.out;have:=HNL.out;omega)
   have e4:decide ((RL:Int)<X1)=false:=decide_eq_false (by have:=HC.out;have:=HCL.out;omega)
   have hjz:(0:Int)<=(j:Int):=Int.natCast_nonneg j
   have hm4:∀ {W:World},Below w5.heap.size w5 W->W.cell? ⟨w1.heap.size,4,none⟩=some (.slice (some ⟨bm,om,none⟩) ML xd):=fun h=>by have:=(HX5.bel h).at 4 rfl;rw [HML.out] at this;exact this
   have hrow:∀ {W:World},Below w5.heap.size w5 W->W.cell? ⟨w2.heap.size,j,none⟩=some (.string ⟨rj.toArray⟩):=fun h=>(HZ5.bel h).at j HRJ.out
   by_cases h0:i=0
   ·have e8:decide ((0:Int)<(i:Int))=false:=decide_eq_false (by omega)
    have e9:decide (0<i)=false:=decide_eq_false (by omega)
    have e10:¬ 0<i:=by omega
    have HI0:=hid h0
    clear h0
    have hS:(fun W:World=>W.cell? ⟨wr.heap.size,0,none⟩=some (.int .i64 X0)/\W.cell? ⟨wr.heap.size,1,none⟩=some (.int .i64 X1)/\W.cell? ⟨w1.heap.size,4,none⟩=some (.slice (some ⟨bm,om,none⟩) ML xd)/\W.cell? ⟨w2.heap.size,j,none⟩=some (.string ⟨rj.toArray⟩)) wx.drew:=⟨HTX.dr.at 0 rfl,HTX.dr.at 1 rfl,hm4 HBX.drew,hrow HBX.drew⟩
    have hFa:=fT
    refine rgN (fun W:World=>W.cell? ⟨wr.heap.size,0,none⟩=some (.int .i64 X0)/\W.cell? ⟨wr.heap.size,1,none⟩=some (.int .i64 X1)/\W.cell? ⟨w1.heap.size,4,none⟩=some (.slice (some ⟨bm,om,none⟩) ML xd)/\W.cell? ⟨w2.heap.size,j,none⟩=some (.string ⟨rj.toArray⟩)) 44 (by kernel_rfl) ?_
    simp only [zP,Nat.reduceAdd]
    iterate 44 (refine wpHJ_nx (v:=?_) 44 rfl rfl (by kernel_rfl) nE hS ?_ ?_;rotate_left;(focus first | (refine Or.inr ⟨?_,?_⟩;(focus (simp [Region.wanted,yielded,undef];done));rfl) | (refine Or.inl ⟨?_,?_⟩;(focus (simp [Region.wanted,yielded,undef];done));rintro w' ⟨s0,s1,s2,s3⟩;(try go_simp);try rfl));simp only [aP])
    refine wpHJ_done (by kernel_rfl) ?_ _
    simp only [onlyN,Exit.then]
    clear hFa
    go_wp2_with fail
    go_roundw
    case rel=>exact ⟨i+1,by have:=HLT.out;omega,by first | (rw [wrap_next HLT.out HLEN.out]) | rfl,HBX.drew⟩
    case measure=>first | exact meas_next HLT.out HLEN.out | (have h5:=HLT.out;show ML - ((i:Int)+1).toNat<ML - ((i:Nat):Int).toNat;omega)
   ·obtain ⟨i1,hi1⟩:∃ k,i=k+1:=⟨i - 1,by omega⟩
    have e8:decide ((0:Int)<(i:Int))=true:=decide_eq_true (by omega)
    have e9:decide (0<i)=true:=decide_eq_true (by omega)
    have e10:0<i:=by omega
    have hm1:i1<p.main.length:=by rw [HML.out];have:=HLT.out;omega
    obtain ⟨q8,q9,-,-,-,-,-,-,k5,k6⟩:=HCM.out i1 hm1
    obtain ⟨⟨Y0,Y1⟩,hY⟩:∃ q,(p.main[i1]'hm1).pos=q:=⟨_,rfl⟩
    rw [hY] at k5
    dsimp only at k5
    have hup:Y0<X0:=by
     have h8:=(List.pairwise_iff_getElem.1 HIN.2) i1 i hm1 HMI.out (by omega)
     rw [hY,HXP.out HMI.out] at h8
     exact h8
    have ea:decide (X0<=Y0)=false:=decide_eq_false (by omega)
    have eb:IntKind.i64.wrap ((i:Int) - 1)=(i1:Int):=by rw [show (i:Int) - 1=(i1:Int) by omega];exact IntWalk.i64_in _ (by have:=HLT.out;have:=HLEN.out;omega)
    have ec:i1<ML:=by have:=HLT.out;omega
    have ed:(0:Int)<=(i1:Int):=Int.natCast_nonneg i1
    have HK5:=hid (show ∀ W:World,Below w5.heap.size w5 W->W.cell? ⟨bm,om+i1*7+5,none⟩=some (.int .i64 Y0) from fun W h=>(h.cell (p:=⟨bm,_,none⟩) HRM.out).trans k5)
    have HI1:=hid hi1
    clear hup hY k5 k6 hm1 hi1 h0
    have hS:(fun W:World=>W.cell? ⟨wr.heap.size,0,none⟩=some (.int .i64 X0)/\W.cell? ⟨wr.heap.size,1,none⟩=some (.int .i64 X1)/\W.cell? ⟨w1.heap.size,4,none⟩=some (.slice (some ⟨bm,om,none⟩) ML xd)/\W.cell? ⟨w2.heap.size,j,none⟩=some (.string ⟨rj.toArray⟩)/\W.cell? ⟨bm,om+i1*7+5,none⟩=some (.int .i64 Y0)) wx.drew:=⟨HTX.dr.at 0 rfl,HTX.dr.at 1 rfl,hm4 HBX.drew,hrow HBX.drew,HK5.out _ HBX.drew⟩
    have hFa:=fT
    refine rgN (fun W:World=>W.cell? ⟨wr.heap.size,0,none⟩=some (.int .i64 X0)/\W.cell? ⟨wr.heap.size,1,none⟩=some (.int .i64 X1)/\W.cell? ⟨w1.heap.size,4,none⟩=some (.slice (some ⟨bm,om,none⟩) ML xd)/\W.cell? ⟨w2.heap.size,j,none⟩=some (.string ⟨rj.toArray⟩)/\W.cell? ⟨bm,om+i1*7+5,none⟩=some (.int .i64 Y0)) 44 (by kernel_rfl) ?_
    simp only [zP,Nat.reduceAdd]
    iterate 44 (refine wpHJ_nx (v:=?_) 44 rfl rfl (by kernel_rfl) nE hS ?_ ?_;rotate_left;(focus refine Or.inl ⟨by simp [Region.wanted,yielded,undef],?_⟩;rintro w' ⟨s0,s1,s2,s3,s4⟩;(try go_simp);try rfl);simp only [aP])
    refine wpHJ_done (by kernel_rfl) ?_ _
    simp only [onlyN,Exit.then]
    clear hFa
    go_wp2_with fail
    go_roundw
    case rel=>exact ⟨i+1,by have:=HLT.out;omega,by first | (rw [wrap_next HLT.out HLEN.out]) | rfl,HBX.drew⟩
    case measure=>first | exact meas_next HLT.out HLEN.out | (have h5:=HLT.out;show ML - ((i:Int)+1).toNat<ML - ((i:Nat):Int).toNat;omega)
  ·obtain rfl:i=ML:=by omega
   have t1:decide ((i:Int)<(i:Int))=false:=decide_eq_false (by omega)
   have HBR:=hid hbr
   have y0:=(HY5.bel hbr).at 0 rfl;have y1:=(HY5.bel hbr).at 1 rfl
   have v0:=(HT5.bel hbr).at 0 rfl;have v1:=(HT5.bel hbr).at 1 rfl
   have HBW:=hid (show Below w.heap.size w wr from HB5.trans (hbr.mono HB5.size))
   clear hbr hi hlt
   go_wp2_with (go_at_call 25;(with_reducible refine (awake23_any m _ (HE.out.below HBW.out) (HMB.out _ HBW.out)).mono ?_);rintro e w9 ⟨rfl,hb⟩;have HB9:=hid (HBW.out.trans (hb.mono HBW.out.size));clear hb)
   go_ret
   exact ⟨rfl,HB9.out⟩
theorem parseGood_any (sb:ByteArray) (w:World) (hs:sb.size<=9223372036854775807) (hE:PrE0 w) (hm:∃ m,w.cell? ⟨0,0,none⟩=some (.int .i64 m)) :
  Calls Tryz.prog 8 #[.string sb] w fun e w'=>e = .returned (.bool true)/\Below w.heap.size w w':=by
 obtain ⟨m,hm⟩:=hm
 have hx:(sb.extract 0 (min (↑sb.size) 3000:Int).toNat).size<=3000:=by
  show (sb.extract 0 _).data.size<=3000
  rw [ByteArray.data_extract,Array.size_extract];omega
 obtain ⟨l,hl⟩:∃ l:Bs,sb.extract 0 (min (↑sb.size) 3000:Int).toNat=⟨l.toArray⟩:=⟨(sb.extract 0 (min (↑sb.size) 3000:Int).toNat).data.toList,rfl⟩
 rw [hl] at hx
 have hll:l.length<=3000:=hx
 cases hp:parseE l with
 | error f=>exact good_bad l sb m w hE hm hl hll hp
 | ok p=>exact good_ok l sb m w hE hm hl hll hp
end Go.Proofs.YtoofbgoeipijcaaGreatDoor
