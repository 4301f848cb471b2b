/-
 The reference: Check of policies.
-/
import Derived.Test.YtbijamcoibonkaaDoorCSRnD
import Derived.Test.YtbijamcoibonkaaDoorCSRnC
import Derived.Deep.DeepCutAuto
namespace Go.Proofs.YtbijamcoibonkaaDoor
set_option linter.unusedSimpArgs false
set_option linter.unusedVariables false
open Go.RowKit Go.Shelf
attribute [local go_sem] Oper.semAt_some
theorem rname_b (s:Bs) (w:World) (hs:s.length≤140737488355328):Calls Tryd.prog 37 #[.string ⟨s.toArray⟩] w fun e w'=>e = .returned (.bool (nameB s))∧Below w.heap.size w w':=by
 refine (rname_any s w hs).mono ?_
 rintro e w' ⟨rfl,rfl⟩
 exact ⟨rfl,Below.refl _ _⟩
set_option maxRecDepth 100000 in
set_option maxHeartbeats 4000000 in
theorem rcheck_po (p:Po) (a b c d:Value) (w:World) (hp:PoV (·<w.heap.size) w a b c d p) (hs:PoS p) :
  Calls Tryd.prog 14 #[.agg (poL a b c d p).toArray] w fun e w'=>e = .returned (.int .i64 (checkP p))∧Below w.heap.size w w':=by
 obtain ⟨pa,ca,rfl⟩:=hp.1.slc
 obtain ⟨pb,cb,rfl⟩:=hp.2.1.slc
 obtain ⟨pc,cc,rfl⟩:=hp.2.2.1.slc
 obtain ⟨pd,cd,rfl⟩:=hp.2.2.2.slc
 have HP:=hid hp;have HS:=hid hs
 have HO1:=hid hp.2.1.len
 obtain ⟨nl,hnl⟩:∃ nl,p.lv.length=nl:=⟨_,rfl⟩
 obtain ⟨no,hno⟩:∃ no,p.od.length=no:=⟨_,rfl⟩
 obtain ⟨nc,hnc⟩:∃ nc,p.ch.length=nc:=⟨_,rfl⟩
 obtain ⟨ns,hns⟩:∃ ns,p.st.length=ns:=⟨_,rfl⟩
 rw [hnl,hno,hnc,hns] at HP ⊢
 have HX:=hid (BoxP.mk0 w (.slice pa nl ca) (.slice pb no cb) (.slice pc nc cc) (.slice pd ns cd) p)
 have HNL:=hid hnl
 have HCK:=hid (show checkP p=if nl=0 then 4 else if 32<nl then 5 else orE (levelsE [] p.lv) (orE (latE nl p.od) (orE (listE nl p.ch) (orE (listE nl p.st) (if rangeB p then 0 else 3)))) from by
  unfold checkP
  rw [hnl]
  by_cases h0:p.lv=[]
  ·rw [if_pos h0,if_pos (by rw [← hnl,h0];rfl)]
  ·rw [if_neg h0,if_neg (fun e=>h0 (List.eq_nil_of_length_eq_zero (hnl.trans e)))])
 clear hp hs hnl hno hnc hns
 by_cases h0:nl=0
 ·have t0:((nl:Int) == 0)=true:=by rw [h0];rfl
  rw [if_pos h0] at HCK
  clear h0
  go_enter Tryd.func14,Tryd.ntmps14
  go_wp2_with fail
  go_ret
  exact ⟨by rw [HCK.out];rfl,HX.out.bel⟩
 rw [if_neg h0] at HCK
 have t0:((nl:Int) == 0)=false:=by rw [beq_eq_false_iff_ne];omega
 by_cases h32:32<nl
 ·have t1:decide (32<(nl:Int))=true:=decide_eq_true (by omega)
  have t1':32<(nl:Int):=by omega
  rw [if_pos h32] at HCK
  clear h0 h32
  go_enter Tryd.func14,Tryd.ntmps14
  go_wp2_with fail
  go_ret
  exact ⟨by rw [HCK.out];rfl,HX.out.bel⟩
 rw [if_neg h32] at HCK
 have t1:decide (32<(nl:Int))=false:=decide_eq_false (by omega)
 have t1':¬ 32<(nl:Int):=by omega
 have HN:=hid (show 1≤nl∧nl≤32 by omega)
 clear h0 h32
 go_enter Tryd.func14,Tryd.ntmps14
 go_upto_region 5 with fail
 obtain ⟨w1,hw1⟩:∃ W,w.alloc (.cells #[.slice pa nl ca,.slice pb no cb,.slice pc nc cc,.slice pd ns cd,.bool p.sens,.int .i64 p.steps,.int .i64 p.paths,.int .i64 p.nodes,.int .i64 p.conf] 26)=W:=⟨_,rfl⟩
 rw [hw1]
 have HX1:=hid (show BoxP w (.slice pa nl ca) (.slice pb no cb) (.slice pc nc cc) (.slice pd ns cd) p w1 from by rw [← hw1];exact HX.out)
 clear hw1 HX
 go_wp2_with fail
 go_loopw [3] (fun iv wr=>∃ k:Nat,k≤nl∧iv = .int .i64 (k:Int)∧levelsE [] p.lv=levelsE (p.lv.take k) (p.lv.drop k)∧BoxP w (.slice pa nl ca) (.slice pb no cb) (.slice pc nc cc) (.slice pd ns cd) p wr) (fun iv _=>nl - (intOf iv).toNat)
 case atStart=>exact ⟨0,Nat.zero_le _,rfl,rfl,HX1.out⟩
 case round =>
  obtain ⟨k,hk,rfl,hm,hbx⟩:=hrel
  have HX2:=hid hbx
  have n0:=hbx.box.at 0 rfl
  have n1:=hbx.box.at 1 rfl
  have n2:=hbx.box.at 2 rfl
  have n3:=hbx.box.at 3 rfl
  have n5:=hbx.box.at 5 rfl
  have n6:=hbx.box.at 6 rfl
  have n7:=hbx.box.at 7 rfl
  have n8:=hbx.box.at 8 rfl
  by_cases hlt:k<nl
  ·have t2:decide ((k:Int)<(nl:Int))=true:=decide_eq_true (by omega)
   have hlt':k<p.lv.length:=by rw [HNL.out];exact hlt
   have hk32:(k:Int)≤32:=by have:=HN.out;omega
   obtain ⟨b0,off,rfl,hR,hcells⟩:=str_at HP.out.1 (by omega:0<p.lv.length)
   have c0:=hcells k hlt'
   have d0:=(hbx.bel.cell (p:=⟨b0,off+k,none⟩) hR).trans c0
   have HM:=hid (hm.trans (by rw [List.drop_eq_getElem_cons hlt',levelsE_step]))
   have HTK:=hid (show p.lv.take (k+1)=p.lv.take k++[p.lv[k]] by simp)
   have HSH1:=hid (HS.out.lv p.lv[k] (List.getElem_mem _))
   have hkc:(k:Int)≤(ca:Int):=by have:=HP.out.1.cap;omega
   have hkc':k≤ca:=by omega
   have HCUT:=hid (HP.out.1.cut k (by omega))
   clear hcells c0 hR hm hbx
   generalize p.lv[k]=f at *
   have HNM:=hid (rname_b f wr HSH1.out)
   have HCT:=hid (fun W (hW:Below wr.heap.size wr W)=>ris_po (p.lv.take k) f (.slice (some ⟨b0,off,none⟩) k ca) _ W (HCUT.out.keep fun q hq=>⟨hq,((HX2.out.on hW).bel).block q hq⟩))
   have HON:=hid (fun W (hW:Below wr.heap.size wr W)=>(HX2.out.on hW).box.at 0 rfl)
   have HD0:=hid (fun W (hW:Below wr.heap.size wr W)=>show W.cell? ⟨b0,off+k,none⟩=some (.string ⟨f.toArray⟩) from (hW.cell (p:=⟨b0,off+k,none⟩) (World.block_lt_of_cell? _ _ d0)).trans d0)
   by_cases q1:nameB f=false
   ·rw [q1] at HNM
    rw [if_pos q1] at HM
    clear q1
    go_wp2_with (go_at_call 37;(with_reducible refine HNM.out.mono ?_);rintro e w3 ⟨rfl,hb3⟩;have HB3:=hid hb3;clear hb3)
    go_ret
    exact ⟨by rw [HCK.out,HM.out];rfl,(HX2.out.on HB3.out).bel⟩
   rw [if_neg q1] at HM
   rw [Bool.not_eq_false] at q1
   rw [q1] at HNM
   clear q1
   by_cases q2:(p.lv.take k).contains f=true
   ·rw [q2] at HCT
    rw [if_pos q2] at HM
    clear q2
    go_upto_region 10 with (go_at_call 37;(with_reducible refine HNM.out.mono ?_);rintro e w3 ⟨rfl,hb3⟩;have HB3:=hid hb3;clear hb3)
    have m0:w3.cell? ⟨w.heap.size,0,none⟩=some (.slice (some ⟨b0,off,none⟩) nl ca):=HON.out _ HB3.out
    have d3:w3.cell? ⟨b0,off+k,none⟩=some (.string ⟨f.toArray⟩):=HD0.out _ HB3.out
    have hS:(fun W=>W.cell? ⟨w.heap.size,0,none⟩=some (.slice (some ⟨b0,off,none⟩) nl ca)∧W.cell? ⟨b0,off+k,none⟩=some (.string ⟨f.toArray⟩)) w3.drew:=⟨HON.out _ HB3.out.drew,HD0.out _ HB3.out.drew⟩
    have hFa:=fT
    refine rgN (fun W=>W.cell? ⟨w.heap.size,0,none⟩=some (.slice (some ⟨b0,off,none⟩) nl ca)∧W.cell? ⟨b0,off+k,none⟩=some (.string ⟨f.toArray⟩)) 10 (by kernel_rfl) ?_
    simp only [List.size_toArray,List.length_cons,List.length_nil,Nat.reduceAdd]
    iterate 9 (refine wpHJ_nx (v:=?_) 10 rfl rfl (by kernel_rfl) nE hS ?_ ?_;rotate_left;(focus refine Or.inl ⟨by rfl,?_⟩;rintro w' ⟨s0,s1⟩;go_simp;try rfl);simp only [Act.put,actP,actQ])
    refine wpHJ_only 9 (by kernel_rfl) rfl (fun K hK=>?_)
    go_simp
    (with_reducible refine (callsIn_wide.2 (HCT.out _ HB3.out.drew)).mono ?_)
    rintro e w4 ⟨rfl,h4⟩
    subst h4
    refine hK _ _ (.inr (.inr hS)) ?_
    clear hK K
    refine wpHJ_done (by kernel_rfl) ?_ _
    simp only [onlyN,Exit.then]
    clear hFa
    clear hS
    go_wp2_with fail
    go_ret
    exact ⟨by rw [HCK.out,HM.out];rfl,(HX2.out.on HB3.out.drew).bel⟩
   rw [if_neg q2] at HM
   rw [Bool.not_eq_true] at q2
   rw [q2] at HCT
   clear q2
   go_upto_region 10 with (go_at_call 37;(with_reducible refine HNM.out.mono ?_);rintro e w3 ⟨rfl,hb3⟩;have HB3:=hid hb3;clear hb3)
   have m0:w3.cell? ⟨w.heap.size,0,none⟩=some (.slice (some ⟨b0,off,none⟩) nl ca):=HON.out _ HB3.out
   have d3:w3.cell? ⟨b0,off+k,none⟩=some (.string ⟨f.toArray⟩):=HD0.out _ HB3.out
   have hS:(fun W=>W.cell? ⟨w.heap.size,0,none⟩=some (.slice (some ⟨b0,off,none⟩) nl ca)∧W.cell? ⟨b0,off+k,none⟩=some (.string ⟨f.toArray⟩)) w3.drew:=⟨HON.out _ HB3.out.drew,HD0.out _ HB3.out.drew⟩
   have hFa:=fT
   refine rgN (fun W=>W.cell? ⟨w.heap.size,0,none⟩=some (.slice (some ⟨b0,off,none⟩) nl ca)∧W.cell? ⟨b0,off+k,none⟩=some (.string ⟨f.toArray⟩)) 10 (by kernel_rfl) ?_
   simp only [List.size_toArray,List.length_cons,List.length_nil,Nat.reduceAdd]
   iterate 9 (refine wpHJ_nx (v:=?_) 10 rfl rfl (by kernel_rfl) nE hS ?_ ?_;rotate_left;(focus refine Or.inl ⟨by rfl,?_⟩;rintro w' ⟨s0,s1⟩;go_simp;try rfl);simp only [Act.put,actP,actQ])
   refine wpHJ_only 9 (by kernel_rfl) rfl (fun K hK=>?_)
   go_simp
   (with_reducible refine (callsIn_wide.2 (HCT.out _ HB3.out.drew)).mono ?_)
   rintro e w4 ⟨rfl,h4⟩
   subst h4
   refine hK _ _ (.inr (.inr hS)) ?_
   clear hK K
   refine wpHJ_done (by kernel_rfl) ?_ _
   simp only [onlyN,Exit.then]
   clear hFa
   clear hS
   go_wp2_with fail
   go_roundw
   case rel=>exact ⟨k+1,by omega,by go_num,by rw [HM.out,HTK.out],HX2.out.on HB3.out.drew⟩
   case measure=>simp [intOf];omega
  ·have eqn:nl=k:=by omega
   subst eqn
   have t2:decide ((nl:Int)<(nl:Int))=false:=decide_eq_false (by omega)
   have HM:=hid (show levelsE [] p.lv=0 from by rw [hm,List.drop_of_length_le (by rw [HNL.out];omega)];rfl)
   clear hm hbx
   rw [HM.out,orE_0] at HCK
   have HLIFT:=hid (fun W (hW:Below wr.heap.size wr W)=>(HX2.out.on hW).bel)
   have HNEW:=hid (by have h:=rnew_any nl p.od (.slice pb no cb) wr (HP.out.2.1.keep fun q hq=>⟨Nat.lt_of_lt_of_le hq HX2.out.bel.size,HX2.out.bel.block q hq⟩) (by have:=HN.out;omega);rw [rlat_eq] at h;exact h)
   have HBC:=hid (fun W (hW:Below wr.heap.size wr W)=>rbinds_any p.ch nl (.slice pc nc cc) W (HP.out.2.2.1.keep fun q hq=>⟨Nat.lt_of_lt_of_le hq (HLIFT.out W hW).size,(HLIFT.out W hW).block q hq⟩) HS.out.ch (by have:=HN.out;omega))
   have HBS:=hid (fun W (hW:Below wr.heap.size wr W)=>rbinds_any p.st nl (.slice pd ns cd) W (HP.out.2.2.2.keep fun q hq=>⟨Nat.lt_of_lt_of_le hq (HLIFT.out W hW).size,(HLIFT.out W hW).block q hq⟩) HS.out.st (by have:=HN.out;omega))
   obtain ⟨eL,hL⟩:∃ e,latE nl p.od=e:=⟨_,rfl⟩
   obtain ⟨eC,hC⟩:∃ e,listE nl p.ch=e:=⟨_,rfl⟩
   obtain ⟨eS,hS⟩:∃ e,listE nl p.st=e:=⟨_,rfl⟩
   rw [hL] at HNEW HCK
   rw [hC] at HBC HCK
   rw [hS] at HBS HCK
   clear hL hC hS
   by_cases zL:¬ eL=0
   ·have tL:(eL != 0)=true:=by rw [bne_iff_ne];exact zL
    rw [orE_of zL] at HCK
    clear zL
    go_wp2_with (go_at_call 39;(with_reducible refine HNEW.out.mono ?_);rintro e w5 ⟨⟨pp,rfl⟩,hb5⟩;have HB5:=hid hb5;have HX5:=hid (HX2.out.on hb5);have m0:=HX5.out.box.at 0 rfl;have m2:=HX5.out.box.at 2 rfl;have m3:=HX5.out.box.at 3 rfl;have m5:=HX5.out.box.at 5 rfl;have m6:=HX5.out.box.at 6 rfl;have m7:=HX5.out.box.at 7 rfl;have m8:=HX5.out.box.at 8 rfl;clear hb5)
    go_ret
    exact ⟨by rw [HCK.out];rfl,HX5.out.bel⟩
   rw [Classical.not_not] at zL
   subst zL
   rw [orE_0] at HCK
   by_cases zC:¬ eC=0
   ·have tC:(eC != 0)=true:=by rw [bne_iff_ne];exact zC
    rw [orE_of zC] at HCK
    clear zC
    go_wp2_with (first | (go_at_call 39;(with_reducible refine HNEW.out.mono ?_);rintro e w5 ⟨⟨pp,rfl⟩,hb5⟩;have HB5:=hid hb5;have HX5:=hid (HX2.out.on hb5);have m0:=HX5.out.box.at 0 rfl;have m2:=HX5.out.box.at 2 rfl;have m3:=HX5.out.box.at 3 rfl;have m5:=HX5.out.box.at 5 rfl;have m6:=HX5.out.box.at 6 rfl;have m7:=HX5.out.box.at 7 rfl;have m8:=HX5.out.box.at 8 rfl;clear hb5) | (go_at_call 40;(with_reducible refine (HBC.out _ HB5.out).mono ?_);rintro e w6 ⟨rfl,hb6⟩;have HB6:=hid (HB5.out.trans (hb6.mono HB5.out.size));have HX6:=hid (HX5.out.on hb6);have q0:=HX6.out.box.at 0 rfl;have q3:=HX6.out.box.at 3 rfl;have q5:=HX6.out.box.at 5 rfl;have q6:=HX6.out.box.at 6 rfl;have q7:=HX6.out.box.at 7 rfl;have q8:=HX6.out.box.at 8 rfl;clear hb6))
    go_ret
    exact ⟨by rw [HCK.out];rfl,HX6.out.bel⟩
   rw [Classical.not_not] at zC
   subst zC
   rw [orE_0] at HCK
   by_cases zS:¬ eS=0
   ·have tS:(eS != 0)=true:=by rw [bne_iff_ne];exact zS
    rw [orE_of zS] at HCK
    clear zS
    go_wp2_with (first | (go_at_call 39;(with_reducible refine HNEW.out.mono ?_);rintro e w5 ⟨⟨pp,rfl⟩,hb5⟩;have HB5:=hid hb5;have HX5:=hid (HX2.out.on hb5);have m0:=HX5.out.box.at 0 rfl;have m2:=HX5.out.box.at 2 rfl;have m3:=HX5.out.box.at 3 rfl;have m5:=HX5.out.box.at 5 rfl;have m6:=HX5.out.box.at 6 rfl;have m7:=HX5.out.box.at 7 rfl;have m8:=HX5.out.box.at 8 rfl;clear hb5) | (go_at_call 40;(with_reducible refine (HBC.out _ HB5.out).mono ?_);rintro e w6 ⟨rfl,hb6⟩;have HB6:=hid (HB5.out.trans (hb6.mono HB5.out.size));have HX6:=hid (HX5.out.on hb6);have q0:=HX6.out.box.at 0 rfl;have q3:=HX6.out.box.at 3 rfl;have q5:=HX6.out.box.at 5 rfl;have q6:=HX6.out.box.at 6 rfl;have q7:=HX6.out.box.at 7 rfl;have q8:=HX6.out.box.at 8 rfl;clear hb6) | (go_at_call 40;(with_reducible refine (HBS.out _ HB6.out).mono ?_);rintro e w7 ⟨rfl,hb7⟩;have HX7:=hid (HX6.out.on hb7);have r5:=HX7.out.box.at 5 rfl;have r6:=HX7.out.box.at 6 rfl;have r7:=HX7.out.box.at 7 rfl;have r8:=HX7.out.box.at 8 rfl;clear hb7))
    go_ret
    exact ⟨by rw [HCK.out];rfl,HX7.out.bel⟩
   rw [Classical.not_not] at zS
   subst zS
   rw [orE_0] at HCK
   have HRG:=hid (show rangeB p=(decide (1≤p.steps) && decide (p.steps≤65536) && (decide (1≤p.paths) && decide (p.paths≤4096)) && (decide (0≤p.nodes) && decide (p.nodes≤1048576)) && (decide (0≤p.conf) && decide (p.conf≤1099511627776))) from rfl)
   obtain ⟨s1,hs1⟩:∃ x,p.steps=x:=⟨_,rfl⟩
   obtain ⟨s2,hs2⟩:∃ x,p.paths=x:=⟨_,rfl⟩
   obtain ⟨s3,hs3⟩:∃ x,p.nodes=x:=⟨_,rfl⟩
   obtain ⟨s4,hs4⟩:∃ x,p.conf=x:=⟨_,rfl⟩
   rw [hs1,hs2,hs3,hs4] at HRG
   rw [hs1] at n5
   rw [hs2] at n6
   rw [hs3] at n7
   rw [hs4] at n8
   by_cases g0:s1<1
   ·have f0:decide (s1<1)=true:=decide_eq_true g0
    have HR:=hid (show checkP p=3 from by rw [HCK.out,if_neg];intro e;rw [HRG.out] at e;simp only [Bool.and_eq_true,decide_eq_true_eq] at e;omega)
    clear g0
    go_wp2_with (first | (go_at_call 39;(with_reducible refine HNEW.out.mono ?_);rintro e w5 ⟨⟨pp,rfl⟩,hb5⟩;have HB5:=hid hb5;have HX5:=hid (HX2.out.on hb5);have m0:=HX5.out.box.at 0 rfl;have m2:=HX5.out.box.at 2 rfl;have m3:=HX5.out.box.at 3 rfl;have m5:=HX5.out.box.at 5 rfl;have m6:=HX5.out.box.at 6 rfl;have m7:=HX5.out.box.at 7 rfl;have m8:=HX5.out.box.at 8 rfl;clear hb5) | (go_at_call 40;(with_reducible refine (HBC.out _ HB5.out).mono ?_);rintro e w6 ⟨rfl,hb6⟩;have HB6:=hid (HB5.out.trans (hb6.mono HB5.out.size));have HX6:=hid (HX5.out.on hb6);have q0:=HX6.out.box.at 0 rfl;have q3:=HX6.out.box.at 3 rfl;have q5:=HX6.out.box.at 5 rfl;have q6:=HX6.out.box.at 6 rfl;have q7:=HX6.out.box.at 7 rfl;have q8:=HX6.out.box.at 8 rfl;clear hb6) | (go_at_call 40;(with_reducible refine (HBS.out _ HB6.out).mono ?_);rintro e w7 ⟨rfl,hb7⟩;have HX7:=hid (HX6.out.on hb7);have r5:=HX7.out.box.at 5 rfl;have r6:=HX7.out.box.at 6 rfl;have r7:=HX7.out.box.at 7 rfl;have r8:=HX7.out.box.at 8 rfl;clear hb7))
    go_ret
    exact ⟨by rw [HR.out];rfl,HX7.out.bel⟩
   have f0:decide (s1<1)=false:=decide_eq_false g0
   have f0':¬ (s1<1):=g0
   by_cases g1:65536<s1
   ·have f1:decide (65536<s1)=true:=decide_eq_true g1
    have HR:=hid (show checkP p=3 from by rw [HCK.out,if_neg];intro e;rw [HRG.out] at e;simp only [Bool.and_eq_true,decide_eq_true_eq] at e;omega)
    clear g0 g1
    go_wp2_with (first | (go_at_call 39;(with_reducible refine HNEW.out.mono ?_);rintro e w5 ⟨⟨pp,rfl⟩,hb5⟩;have HB5:=hid hb5;have HX5:=hid (HX2.out.on hb5);have m0:=HX5.out.box.at 0 rfl;have m2:=HX5.out.box.at 2 rfl;have m3:=HX5.out.box.at 3 rfl;have m5:=HX5.out.box.at 5 rfl;have m6:=HX5.out.box.at 6 rfl;have m7:=HX5.out.box.at 7 rfl;have m8:=HX5.out.box.at 8 rfl;clear hb5) | (go_at_call 40;(with_reducible refine (HBC.out _ HB5.out).mono ?_);rintro e w6 ⟨rfl,hb6⟩;have HB6:=hid (HB5.out.trans (hb6.mono HB5.out.size));have HX6:=hid (HX5.out.on hb6);have q0:=HX6.out.box.at 0 rfl;have q3:=HX6.out.box.at 3 rfl;have q5:=HX6.out.box.at 5 rfl;have q6:=HX6.out.box.at 6 rfl;have q7:=HX6.out.box.at 7 rfl;have q8:=HX6.out.box.at 8 rfl;clear hb6) | (go_at_call 40;(with_reducible refine (HBS.out _ HB6.out).mono ?_);rintro e w7 ⟨rfl,hb7⟩;have HX7:=hid (HX6.out.on hb7);have r5:=HX7.out.box.at 5 rfl;have r6:=HX7.out.box.at 6 rfl;have r7:=HX7.out.box.at 7 rfl;have r8:=HX7.out.box.at 8 rfl;clear hb7))
    go_ret
    exact ⟨by rw [HR.out];rfl,HX7.out.bel⟩
   have f1:decide (65536<s1)=false:=decide_eq_false g1
   have f1':¬ (65536<s1):=g1
   by_cases g2:s2<1
   ·have f2:decide (s2<1)=true:=decide_eq_true g2
    have HR:=hid (show checkP p=3 from by rw [HCK.out,if_neg];intro e;rw [HRG.out] at e;simp only [Bool.and_eq_true,decide_eq_true_eq] at e;omega)
    clear g0 g1 g2
    go_wp2_with (first | (go_at_call 39;(with_reducible refine HNEW.out.mono ?_);rintro e w5 ⟨⟨pp,rfl⟩,hb5⟩;have HB5:=hid hb5;have HX5:=hid (HX2.out.on hb5);have m0:=HX5.out.box.at 0 rfl;have m2:=HX5.out.box.at 2 rfl;have m3:=HX5.out.box.at 3 rfl;have m5:=HX5.out.box.at 5 rfl;have m6:=HX5.out.box.at 6 rfl;have m7:=HX5.out.box.at 7 rfl;have m8:=HX5.out.box.at 8 rfl;clear hb5) | (go_at_call 40;(with_reducible refine (HBC.out _ HB5.out).mono ?_);rintro e w6 ⟨rfl,hb6⟩;have HB6:=hid (HB5.out.trans (hb6.mono HB5.out.size));have HX6:=hid (HX5.out.on hb6);have q0:=HX6.out.box.at 0 rfl;have q3:=HX6.out.box.at 3 rfl;have q5:=HX6.out.box.at 5 rfl;have q6:=HX6.out.box.at 6 rfl;have q7:=HX6.out.box.at 7 rfl;have q8:=HX6.out.box.at 8 rfl;clear hb6) | (go_at_call 40;(with_reducible refine (HBS.out _ HB6.out).mono ?_);rintro e w7 ⟨rfl,hb7⟩;have HX7:=hid (HX6.out.on hb7);have r5:=HX7.out.box.at 5 rfl;have r6:=HX7.out.box.at 6 rfl;have r7:=HX7.out.box.at 7 rfl;have r8:=HX7.out.box.at 8 rfl;clear hb7))
    go_ret
    exact ⟨by rw [HR.out];rfl,HX7.out.bel⟩
   have f2:decide (s2<1)=false:=decide_eq_false g2
   have f2':¬ (s2<1):=g2
   by_cases g3:4096<s2
   ·have f3:decide (4096<s2)=true:=decide_eq_true g3
    have HR:=hid (show checkP p=3 from by rw [HCK.out,if_neg];intro e;rw [HRG.out] at e;simp only [Bool.and_eq_true,decide_eq_true_eq] at e;omega)
    clear g0 g1 g2 g3
    go_wp2_with (first | (go_at_call 39;(with_reducible refine HNEW.out.mono ?_);rintro e w5 ⟨⟨pp,rfl⟩,hb5⟩;have HB5:=hid hb5;have HX5:=hid (HX2.out.on hb5);have m0:=HX5.out.box.at 0 rfl;have m2:=HX5.out.box.at 2 rfl;have m3:=HX5.out.box.at 3 rfl;have m5:=HX5.out.box.at 5 rfl;have m6:=HX5.out.box.at 6 rfl;have m7:=HX5.out.box.at 7 rfl;have m8:=HX5.out.box.at 8 rfl;clear hb5) | (go_at_call 40;(with_reducible refine (HBC.out _ HB5.out).mono ?_);rintro e w6 ⟨rfl,hb6⟩;have HB6:=hid (HB5.out.trans (hb6.mono HB5.out.size));have HX6:=hid (HX5.out.on hb6);have q0:=HX6.out.box.at 0 rfl;have q3:=HX6.out.box.at 3 rfl;have q5:=HX6.out.box.at 5 rfl;have q6:=HX6.out.box.at 6 rfl;have q7:=HX6.out.box.at 7 rfl;have q8:=HX6.out.box.at 8 rfl;clear hb6) | (go_at_call 40;(with_reducible refine (HBS.out _ HB6.out).mono ?_);rintro e w7 ⟨rfl,hb7⟩;have HX7:=hid (HX6.out.on hb7);have r5:=HX7.out.box.at 5 rfl;have r6:=HX7.out.box.at 6 rfl;have r7:=HX7.out.box.at 7 rfl;have r8:=HX7.out.box.at 8 rfl;clear hb7))
    go_ret
    exact ⟨by rw [HR.out];rfl,HX7.out.bel⟩
   have f3:decide (4096<s2)=false:=decide_eq_false g3
   have f3':¬ (4096<s2):=g3
   by_cases g4:s3<0
   ·have f4:decide (s3<0)=true:=decide_eq_true g4
    have HR:=hid (show checkP p=3 from by rw [HCK.out,if_neg];intro e;rw [HRG.out] at e;simp only [Bool.and_eq_true,decide_eq_true_eq] at e;omega)
    clear g0 g1 g2 g3 g4
    go_wp2_with (first | (go_at_call 39;(with_reducible refine HNEW.out.mono ?_);rintro e w5 ⟨⟨pp,rfl⟩,hb5⟩;have HB5:=hid hb5;have HX5:=hid (HX2.out.on hb5);have m0:=HX5.out.box.at 0 rfl;have m2:=HX5.out.box.at 2 rfl;have m3:=HX5.out.box.at 3 rfl;have m5:=HX5.out.box.at 5 rfl;have m6:=HX5.out.box.at 6 rfl;have m7:=HX5.out.box.at 7 rfl;have m8:=HX5.out.box.at 8 rfl;clear hb5) | (go_at_call 40;(with_reducible refine (HBC.out _ HB5.out).mono ?_);rintro e w6 ⟨rfl,hb6⟩;have HB6:=hid (HB5.out.trans (hb6.mono HB5.out.size));have HX6:=hid (HX5.out.on hb6);have q0:=HX6.out.box.at 0 rfl;have q3:=HX6.out.box.at 3 rfl;have q5:=HX6.out.box.at 5 rfl;have q6:=HX6.out.box.at 6 rfl;have q7:=HX6.out.box.at 7 rfl;have q8:=HX6.out.box.at 8 rfl;clear hb6) | (go_at_call 40;(with_reducible refine (HBS.out _ HB6.out).mono ?_);rintro e w7 ⟨rfl,hb7⟩;have HX7:=hid (HX6.out.on hb7);have r5:=HX7.out.box.at 5 rfl;have r6:=HX7.out.box.at 6 rfl;have r7:=HX7.out.box.at 7 rfl;have r8:=HX7.out.box.at 8 rfl;clear hb7))
    go_ret
    exact ⟨by rw [HR.out];rfl,HX7.out.bel⟩
   have f4:decide (s3<0)=false:=decide_eq_false g4
   have f4':¬ (s3<0):=g4
   by_cases g5:1048576<s3
   ·have f5:decide (1048576<s3)=true:=decide_eq_true g5
    have HR:=hid (show checkP p=3 from by rw [HCK.out,if_neg];intro e;rw [HRG.out] at e;simp only [Bool.and_eq_true,decide_eq_true_eq] at e;omega)
    clear g0 g1 g2 g3 g4 g5
    go_wp2_with (first | (go_at_call 39;(with_reducible refine HNEW.out.mono ?_);rintro e w5 ⟨⟨pp,rfl⟩,hb5⟩;have HB5:=hid hb5;have HX5:=hid (HX2.out.on hb5);have m0:=HX5.out.box.at 0 rfl;have m2:=HX5.out.box.at 2 rfl;have m3:=HX5.out.box.at 3 rfl;have m5:=HX5.out.box.at 5 rfl;have m6:=HX5.out.box.at 6 rfl;have m7:=HX5.out.box.at 7 rfl;have m8:=HX5.out.box.at 8 rfl;clear hb5) | (go_at_call 40;(with_reducible refine (HBC.out _ HB5.out).mono ?_);rintro e w6 ⟨rfl,hb6⟩;have HB6:=hid (HB5.out.trans (hb6.mono HB5.out.size));have HX6:=hid (HX5.out.on hb6);have q0:=HX6.out.box.at 0 rfl;have q3:=HX6.out.box.at 3 rfl;have q5:=HX6.out.box.at 5 rfl;have q6:=HX6.out.box.at 6 rfl;have q7:=HX6.out.box.at 7 rfl;have q8:=HX6.out.box.at 8 rfl;clear hb6) | (go_at_call 40;(with_reducible refine (HBS.out _ HB6.out).mono ?_);rintro e w7 ⟨rfl,hb7⟩;have HX7:=hid (HX6.out.on hb7);have r5:=HX7.out.box.at 5 rfl;have r6:=HX7.out.box.at 6 rfl;have r7:=HX7.out.box.at 7 rfl;have r8:=HX7.out.box.at 8 rfl;clear hb7))
    go_ret
    exact ⟨by rw [HR.out];rfl,HX7.out.bel⟩
   have f5:decide (1048576<s3)=false:=decide_eq_false g5
   have f5':¬ (1048576<s3):=g5
   by_cases g6:s4<0
   ·have f6:decide (s4<0)=true:=decide_eq_true g6
    have HR:=hid (show checkP p=3 from by rw [HCK.out,if_neg];intro e;rw [HRG.out] at e;simp only [Bool.and_eq_true,decide_eq_true_eq] at e;omega)
    clear g0 g1 g2 g3 g4 g5 g6
    go_wp2_with (first | (go_at_call 39;(with_reducible refine HNEW.out.mono ?_);rintro e w5 ⟨⟨pp,rfl⟩,hb5⟩;have HB5:=hid hb5;have HX5:=hid (HX2.out.on hb5);have m0:=HX5.out.box.at 0 rfl;have m2:=HX5.out.box.at 2 rfl;have m3:=HX5.out.box.at 3 rfl;have m5:=HX5.out.box.at 5 rfl;have m6:=HX5.out.box.at 6 rfl;have m7:=HX5.out.box.at 7 rfl;have m8:=HX5.out.box.at 8 rfl;clear hb5) | (go_at_call 40;(with_reducible refine (HBC.out _ HB5.out).mono ?_);rintro e w6 ⟨rfl,hb6⟩;have HB6:=hid (HB5.out.trans (hb6.mono HB5.out.size));have HX6:=hid (HX5.out.on hb6);have q0:=HX6.out.box.at 0 rfl;have q3:=HX6.out.box.at 3 rfl;have q5:=HX6.out.box.at 5 rfl;have q6:=HX6.out.box.at 6 rfl;have q7:=HX6.out.box.at 7 rfl;have q8:=HX6.out.box.at 8 rfl;clear hb6) | (go_at_call 40;(with_reducible refine (HBS.out _ HB6.out).mono ?_);rintro e w7 ⟨rfl,hb7⟩;have HX7:=hid (HX6.out.on hb7);have r5:=HX7.out.box.at 5 rfl;have r6:=HX7.out.box.at 6 rfl;have r7:=HX7.out.box.at 7 rfl;have r8:=HX7.out.box.at 8 rfl;clear hb7))
    go_ret
    exact ⟨by rw [HR.out];rfl,HX7.out.bel⟩
   have f6:decide (s4<0)=false:=decide_eq_false g6
   have f6':¬ (s4<0):=g6
   by_cases g7:1099511627776<s4
   ·have f7:decide (1099511627776<s4)=true:=decide_eq_true g7
    have HR:=hid (show checkP p=3 from by rw [HCK.out,if_neg];intro e;rw [HRG.out] at e;simp only [Bool.and_eq_true,decide_eq_true_eq] at e;omega)
    clear g0 g1 g2 g3 g4 g5 g6 g7
    go_wp2_with (first | (go_at_call 39;(with_reducible refine HNEW.out.mono ?_);rintro e w5 ⟨⟨pp,rfl⟩,hb5⟩;have HB5:=hid hb5;have HX5:=hid (HX2.out.on hb5);have m0:=HX5.out.box.at 0 rfl;have m2:=HX5.out.box.at 2 rfl;have m3:=HX5.out.box.at 3 rfl;have m5:=HX5.out.box.at 5 rfl;have m6:=HX5.out.box.at 6 rfl;have m7:=HX5.out.box.at 7 rfl;have m8:=HX5.out.box.at 8 rfl;clear hb5) | (go_at_call 40;(with_reducible refine (HBC.out _ HB5.out).mono ?_);rintro e w6 ⟨rfl,hb6⟩;have HB6:=hid (HB5.out.trans (hb6.mono HB5.out.size));have HX6:=hid (HX5.out.on hb6);have q0:=HX6.out.box.at 0 rfl;have q3:=HX6.out.box.at 3 rfl;have q5:=HX6.out.box.at 5 rfl;have q6:=HX6.out.box.at 6 rfl;have q7:=HX6.out.box.at 7 rfl;have q8:=HX6.out.box.at 8 rfl;clear hb6) | (go_at_call 40;(with_reducible refine (HBS.out _ HB6.out).mono ?_);rintro e w7 ⟨rfl,hb7⟩;have HX7:=hid (HX6.out.on hb7);have r5:=HX7.out.box.at 5 rfl;have r6:=HX7.out.box.at 6 rfl;have r7:=HX7.out.box.at 7 rfl;have r8:=HX7.out.box.at 8 rfl;clear hb7))
    go_ret
    exact ⟨by rw [HR.out];rfl,HX7.out.bel⟩
   have f7:decide (1099511627776<s4)=false:=decide_eq_false g7
   have f7':¬ (1099511627776<s4):=g7
   have HR:=hid (show checkP p=0 from by rw [HCK.out,if_pos];rw [HRG.out];simp only [Bool.and_eq_true,decide_eq_true_eq];omega)
   clear g0 g1 g2 g3 g4 g5 g6 g7
   go_wp2_with (first | (go_at_call 39;(with_reducible refine HNEW.out.mono ?_);rintro e w5 ⟨⟨pp,rfl⟩,hb5⟩;have HB5:=hid hb5;have HX5:=hid (HX2.out.on hb5);have m0:=HX5.out.box.at 0 rfl;have m2:=HX5.out.box.at 2 rfl;have m3:=HX5.out.box.at 3 rfl;have m5:=HX5.out.box.at 5 rfl;have m6:=HX5.out.box.at 6 rfl;have m7:=HX5.out.box.at 7 rfl;have m8:=HX5.out.box.at 8 rfl;clear hb5) | (go_at_call 40;(with_reducible refine (HBC.out _ HB5.out).mono ?_);rintro e w6 ⟨rfl,hb6⟩;have HB6:=hid (HB5.out.trans (hb6.mono HB5.out.size));have HX6:=hid (HX5.out.on hb6);have q0:=HX6.out.box.at 0 rfl;have q3:=HX6.out.box.at 3 rfl;have q5:=HX6.out.box.at 5 rfl;have q6:=HX6.out.box.at 6 rfl;have q7:=HX6.out.box.at 7 rfl;have q8:=HX6.out.box.at 8 rfl;clear hb6) | (go_at_call 40;(with_reducible refine (HBS.out _ HB6.out).mono ?_);rintro e w7 ⟨rfl,hb7⟩;have HX7:=hid (HX6.out.on hb7);have r5:=HX7.out.box.at 5 rfl;have r6:=HX7.out.box.at 6 rfl;have r7:=HX7.out.box.at 7 rfl;have r8:=HX7.out.box.at 8 rfl;clear hb7))
   go_ret
   exact ⟨by rw [HR.out];rfl,HX7.out.bel⟩
end Go.Proofs.YtbijamcoibonkaaDoor
