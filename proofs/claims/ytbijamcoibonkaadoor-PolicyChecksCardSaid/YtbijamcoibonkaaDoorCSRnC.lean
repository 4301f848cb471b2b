/-
 The lattices of the reference: New.
-/
import Derived.Test.YtbijamcoibonkaaDoorCB40
import Derived.Test.YtbijamcoibonkaaDoorCSLtO
import Derived.Deep.DeepCutAuto
namespace Go.Proofs.YtbijamcoibonkaaDoor
set_option linter.unusedSimpArgs false
set_option linter.unusedVariables false
open Go.RowKit Go.Shelf
attribute [local go_sem] Oper.semAt_some
theorem below_grown {w w2 w3:World} {B:Nat} {g:Option Nat} (hb:Below B w w2) (hg:w2.grownBy w3 g) (h:∀ k,g=some k→B≤k) (hB:B≤w2.heap.size):Below B w w3:=by
 obtain ⟨a1,a2,a3,a4,a5⟩:=hg
 obtain ⟨b1,b2,b3,b4,b5⟩:=hb
 exact ⟨a1.trans b1,a2.trans b2,a3.trans b3,Nat.le_trans b4 a4,fun k hk=>by
  rw [a5 k (Nat.lt_of_lt_of_le hk hB) (fun e=>by have:=h k e.symm;omega)]
  exact b5 k hk⟩
theorem MxA.dr {B x n:Nat} {v:Value} {rs:List Nat} {M:Mx} {w:World} (h:MxA B x n v rs M w):MxA B x n v rs M w.drew:=h.other fun _ _=>rfl
theorem MxA.outer {B x n k:Nat} {v:Value} {rs:List Nat} {M:Mx} {w:World} (h:MxA B x n v rs M w) (hl:rs.length=k) (i:Nat) (hi:i<k) (hir:i<rs.length) {r:Nat} (hr:rs[i]=r):∃ o c,v = .slice (some ⟨o,0,none⟩) k c∧k≤c∧w.cell? ⟨x,0,none⟩=some (.slice (some ⟨o,0,none⟩) k c)∧w.cell? ⟨o,i,none⟩=some (.slice (some ⟨r,0,none⟩) n n):=by
 obtain ⟨css,h1,h2⟩:=h.out
 rcases h2.2 with ⟨_,h3⟩ | ⟨g,cap,cur,hv,hb,hg,hcap,hmx,hsz,htk⟩
 ·omega
 have h2':w.ownsRow B 114 1 (.slice (some ⟨g,0,none⟩) rs.length cap) rs.length css.flatten:=hv ▸ h2
 rw [hl] at hv
 refine ⟨g,cap,hv,by omega,by rw [← hv];exact h.box.at 0 rfl,?_⟩
 have hi':i<css.length:=by rw [h1.1];exact hir
 have hE:css[i]=[.slice (some ⟨rs[i],0,none⟩) n n]:=h1.2 i hir hi'
 have a0:=h1.lens.at i 0 hi' (show 0<1 from Nat.one_pos)
 rw [hE] at a0
 have a1:=h2'.cellAt i (by rw [Nat.mul_one];exact hir)
 have e:i*(kRowN n).n+0=i:=Nat.mul_one i
 rw [e] at a0
 rw [a1,a0,← hr]
 rfl
set_option maxRecDepth 100000 in
set_option maxHeartbeats 4000000 in
theorem rnew_any (n:Nat) (od:List (Int × Int)) (vo:Value) (w:World) (hv:SlG kPair (·<w.heap.size) w vo od) (hn:n≤100000) :
  Calls Tryd.prog 39 #[.int .i64 (n:Int),vo] w fun e w'=>(∃ p,e = .returned (.tuple #[.pointer p,.int .i64 (rlatE n od)]))∧Below w.heap.size w w':=by
 obtain ⟨po,co,rfl⟩:=hv.slc
 obtain ⟨latR,hlr⟩:∃ z,rlatE n od=z:=⟨_,rfl⟩
 rw [hlr]
 have HLR:=hid hlr;have HV:=hid hv;have HOL:=hid hv.len
 obtain ⟨NO,hno⟩:∃ k,od.length=k:=⟨_,rfl⟩
 have HNO:=hid hno
 rw [hno] at HV HOL ⊢
 clear hlr hv hno
 by_cases h1:n<1
 ·have g1:decide ((n:Int)<1)=true:=decide_eq_true (by omega)
  have HB:=hid (show latR=3 from by rw [← HLR.out];unfold rlatE;rw [if_pos (.inl h1)])
  clear h1
  go_enter Tryd.func39,Tryd.ntmps39
  go_wp2_with fail
  go_ret2
  exact ⟨⟨_,by rw [HB.out];rfl⟩,Below.refl _ _⟩
 have g1:decide ((n:Int)<1)=false:=decide_eq_false (by omega)
 by_cases h2:32<n
 ·have g2:decide ((32:Int)<(n:Int))=true:=decide_eq_true (by omega)
  have HB:=hid (show latR=3 from by rw [← HLR.out];unfold rlatE;rw [if_pos (.inr h2)])
  clear h1 h2
  go_enter Tryd.func39,Tryd.ntmps39
  go_wp2_with fail
  go_ret2
  exact ⟨⟨_,by rw [HB.out];rfl⟩,Below.refl _ _⟩
 have g2:decide ((32:Int)<(n:Int))=false:=decide_eq_false (by omega)
 by_cases h3:1024<NO
 ·have g3:decide ((1024:Int)<(NO:Int))=true:=decide_eq_true (by omega)
  have HB:=hid (show latR=5 from by rw [← HLR.out];unfold rlatE;rw [if_neg (by omega),HNO.out,if_pos h3])
  clear h1 h2 h3
  go_enter Tryd.func39,Tryd.ntmps39
  go_wp2_with fail
  go_ret2
  exact ⟨⟨_,by rw [HB.out];rfl⟩,Below.refl _ _⟩
 have g3:decide ((1024:Int)<(NO:Int))=false:=decide_eq_false (by omega)
 have HN:=hid (show 0<n∧n≤32 from by omega)
 have HNO2:=hid h3
 have hn32:n≤32:=by omega
 have hno9:NO≤1024:=by omega
 have HMK:=hid (fun W=>make_runB (P:=Tryd.prog) (t:=114) Tryd.underlying114 info_boB rfl n (by have:=HN.out;omega) (by have:=HN.out;omega) W)
 clear h1 h2 h3 hn
 go_enter Tryd.func39,Tryd.ntmps39
 go_wp2_with fail
 go_loopw [7] (fun kv wr=>∃ (k:Nat) (v:Value) (rs:List Nat) (M:Mx),k≤n∧kv = .int .i64 (k:Int)∧rs.length=k∧MxA w.heap.size w.heap.size n v rs M wr∧(∀ i,i<k→∀ j,j<n→M i j=idM i j)∧Below w.heap.size w wr) (fun kv _=>n - (intOf kv).toNat)
 case atStart=>exact ⟨0,.slice none 0 0,[],idM,Nat.zero_le _,rfl,rfl,⟨BxL.new _ _ _,GR.nil _ _ _ _ _,fun i h=>absurd h (Nat.not_lt_zero _),List.nodup_nil,fun r h=>(by cases h),Nat.le_refl _⟩,fun i h=>absurd h (Nat.not_lt_zero _),(Below.refl _ _).alloc (Nat.le_refl _) _⟩
 case round =>
  obtain ⟨k,v,rs,M,hk,rfl,hrl,hM,hid1,hB⟩:=hrel
  obtain ⟨pv,cv,hpv⟩:=hM.out.slc
  rw [hrl] at hpv
  subst hpv
  have HM:=hid hM;have HID:=hid hid1;have HBR:=hid hB;have HRL:=hid hrl
  clear hM hid1 hB hrl
  by_cases hlt:k<n
  ·have t1:decide ((k:Int)<(n:Int))=true:=decide_eq_true (by omega)
   have HKN:=hid hlt
   have HNXR:=hid (fun v' (w4:World) (h:MxA w.heap.size w.heap.size n v' (rs++[wr.heap.size]) (fun i=>if i=rs.length then fun _=>false else M i) w4) (hb:Below w.heap.size w w4)=>show (∃ o c,v' = .slice (some ⟨o,0,none⟩) (k+1) c∧k+1≤c∧w4.cell? ⟨w.heap.size,0,none⟩=some (.slice (some ⟨o,0,none⟩) (k+1) c)∧w4.cell? ⟨o,k,none⟩=some (.slice (some ⟨wr.heap.size,0,none⟩) n n))∧w4.cell? ⟨wr.heap.size,k,none⟩=some (.bool false)∧w4.frozen? ⟨wr.heap.size,k,none⟩=false∧∃ (k':Nat) (v2:Value) (rs':List Nat) (M':Mx),k'≤n∧Value.int .i64 ((k:Int)+1) = .int .i64 (k':Int)∧rs'.length=k'∧MxA w.heap.size w.heap.size n v2 rs' M' (w4.setCell ⟨wr.heap.size,k,none⟩ (.bool true))∧(∀ i,i<k'→∀ j,j<n→M' i j=idM i j)∧Below w.heap.size w (w4.setCell ⟨wr.heap.size,k,none⟩ (.bool true)) from by
    have hrl:=HRL.out
    have hk1:k<(rs++[wr.heap.size]).length:=by rw [List.length_append,hrl];simp
    have hrk:(rs++[wr.heap.size])[k]=wr.heap.size:=by rw [List.getElem_append_right (by omega)];simp
    have hrow:=h.row k hk1
    rw [hrk,if_pos hrl.symm] at hrow
    refine ⟨?_,hrow.at k (bRow_at HKN.out),hrow.fr k,k+1,v',rs++[wr.heap.size],setM (fun i=>if i=rs.length then fun _=>false else M i) k k true,HKN.out,rfl,by rw [List.length_append,hrl];rfl,?_,fun i hi j hj=>?_,hb.setCell (p:=⟨wr.heap.size,k,none⟩) HBR.out.size _⟩
    ·exact h.outer (by rw [List.length_append,hrl];rfl) k (by omega) hk1 hrk
    ·have hst:=h.store k k hk1 HKN.out true
     rw [hrk] at hst
     exact hst
    ·unfold setM
     by_cases e:i=k
     ·subst e
      by_cases ej:j=i
      ·subst ej;rw [if_pos ⟨rfl,rfl⟩];unfold idM;simp
      ·rw [if_neg (fun c=>ej c.2)]
       show (if i=rs.length then (fun _=>false:Nat→Bool) else M i) j=_
       rw [if_pos hrl.symm];unfold idM;simp;exact fun c=>ej c.symm
     ·rw [if_neg (fun c=>e c.1)]
      show (if i=rs.length then (fun _=>false:Nat→Bool) else M i) j=_
      rw [if_neg (by omega)]
      exact HID.out i (by omega) j hj)
   have hS0:=HM.out.box.at 0 rfl
   go_upto_region 9 with fail
   have hS:(fun W=>W.cell? ⟨w.heap.size,0,none⟩=some (.slice pv k cv)) wr.drew:=HM.out.box.at 0 rfl
   have hFa:=fT
   refine rgN (fun W=>W.cell? ⟨w.heap.size,0,none⟩=some (.slice pv k cv)) 11 (by kernel_rfl) ?_
   simp only [List.size_toArray,List.length_cons,List.length_nil,Nat.reduceAdd]
   iterate 6 (refine wpHJ_nx (v:=?_) 12 rfl rfl (by kernel_rfl) nE hS ?_ ?_;rotate_left;(focus refine Or.inl ⟨by rfl,?_⟩;rintro w' s0;go_simp;try rfl);simp only [Act.put,actP,actQ])
   refine wpHJ_only 6 (by kernel_rfl) rfl (fun K hK=>?_)
   have hmk:=HMK.out wr.drew
   go_simp
   clear hmk
   obtain ⟨wa,hwa⟩:∃ W,(wr.alloc (.cells (Array.replicate n (.bool false)) 4)).drew=W:=⟨_,rfl⟩
   have HSa:=hid (show wa.heap.size=wr.heap.size+1 from by rw [← hwa];exact World.size_alloc _ _)
   have HOTa:=hid (show ∀ k,k<wr.heap.size→wa.heap[k]?=wr.heap[k]? from fun k hk=>by rw [← hwa];exact ((Below.refl _ _).alloc (Nat.le_refl _) _).block k hk)
   have HROa:=hid (show BxL 4 wr.heap.size (bRow n fun _=>false) wa from by rw [← hwa,rep_row];exact BxL.new 4 wr _)
   have HBa:=hid (show Below w.heap.size w wa from by rw [← hwa];exact (HBR.out.alloc HBR.out.size _).drew)
   have hS6:(fun W=>W.cell? ⟨w.heap.size,0,none⟩=some (.slice pv k cv)) wa:=(HM.out.other HOTa.out).box.at 0 rfl
   rw [hwa]
   clear hwa
   refine hK _ _ (.inr (.inr hS6)) ?_
   clear hK K
   refine wpHJ_only 7 (by kernel_rfl) rfl (fun K hK=>?_)
   go_simp
   obtain ⟨wb,hwb⟩:∃ W,wa.alloc (.cells #[.slice (some ⟨wr.heap.size,0,none⟩) n n] 114)=W:=⟨_,rfl⟩
   have hbb:Below wa.heap.size wa wb:=by rw [← hwb];exact (Below.refl _ _).alloc (Nat.le_refl _) _
   have HOT:=hid (show ∀ k,k<wr.heap.size→wb.heap[k]?=wr.heap[k]? from fun k hk=>by rw [hbb.block k (by have:=HSa.out;omega)];exact HOTa.out k hk)
   have HROb:=hid (HROa.out.bel hbb)
   have HBb:=hid (HBa.out.trans (hbb.mono HBa.out.size))
   have HMb:=hid (HM.out.other HOT.out)
   have hS7:(fun W=>W.cell? ⟨w.heap.size,0,none⟩=some (.slice pv k cv)) wb:=HMb.out.box.at 0 rfl
   have HYb:=hid (show BxL 114 wa.heap.size [.slice (some ⟨wr.heap.size,0,none⟩) n n] wb from by rw [← hwb];exact BxL.new _ _ _)
   rw [hwb]
   clear hwb hbb hS6
   refine hK _ _ (.inr (.inr hS7)) ?_
   clear hK K
   refine wpHJ_only 8 (by kernel_rfl) rfl (fun K hK=>?_)
   refine wpIn_pushB (R:=NoR) (B:=w.heap.size) (K:=kRowN n) (v := .slice pv k cv) (l:=rs) (x:=wr.heap.size) (cs:=[.slice (some ⟨wr.heap.size,0,none⟩) n n]) (te:=114) hFa (.tmp 38) (.tmp 41) 111 rfl Tryd.underlying111 _ 24 info_bss rfl HMb.out.out (fun i hi=>hi.elim) rfl HYb.out (by rfl) (by rfl) (by have:=HRL.out;have:=HKN.out;have:=HN.out;omega) (by have:=HRL.out;have:=HKN.out;have:=HN.out;unfold maxLen;omega) HBb.out.size ?_
   intro v' wc hG hgr hmv
   obtain ⟨pz,cz,hvz⟩:=hG.slc
   have hl9:(rs++[wr.heap.size]).length=k+1:=by rw [List.length_append,HRL.out];rfl
   rw [hl9] at hvz
   subst hvz
   have hS8:(fun W=>W.cell? ⟨w.heap.size,0,none⟩=some (.slice pv k cv)) wc:=(HMb.out.box.keep (hgr.block _ HMb.out.box.lt fun e=>own_ne HMb.out.out HMb.out.box (by decide) e.symm)).at 0 rfl
   have hf8:wc.frozen? ⟨w.heap.size,0,none⟩=false:=(HMb.out.box.keep (hgr.block _ HMb.out.box.lt fun e=>own_ne HMb.out.out HMb.out.box (by decide) e.symm)).fr 0
   have HADD:=hid (show MxA w.heap.size w.heap.size n (.slice pz (k+1) cz) (rs++[wr.heap.size]) (fun i=>if i=rs.length then fun _=>false else M i) (wc.setCell ⟨w.heap.size,0,none⟩ (.slice pz (k+1) cz)) from HM.out.add HOT.out HROb.out (Nat.le_refl _) hgr hG HBR.out.size)
   have HBc:=hid (show Below w.heap.size w wc from below_grown HBb.out hgr (fun k hk=>(HMb.out.out.lt k hk).1) HBb.out.size)
   clear hgr hmv hS7
   refine hK _ _ (.inr (.inr hS8)) ?_
   clear hK K
   (refine wpHJ_np (v:=?_) 12 rfl rfl (by kernel_rfl) nE (.inr hS8) ?_ ?_;rotate_left;(focus refine Or.inl ⟨by rfl,?_⟩;rintro w' _;go_simp;try rfl);simp only [Act.put,actP,actQ])
   (refine wpHJ_nx (v:=?_) 12 rfl rfl (by kernel_rfl) nE hS8 ?_ ?_;rotate_left;(focus refine Or.inl ⟨by rfl,?_⟩;rintro w' s0;go_simp;try rfl);simp only [Act.put,actP,actQ])
   refine wpHJ_only 11 (by kernel_rfl) rfl (fun K hK=>?_)
   go_simp
   refine hK _ _ (.inl rfl) ?_
   clear hK K
   refine wpHJ_done (by kernel_rfl) ?_ _
   simp only [onlyN,Exit.then]
   clear hFa
   clear hS hS8 hf8 hS0
   obtain ⟨⟨o1,c1,hv1,hc1,g1,g2⟩,g3,g4,hnx⟩:=HNXR.out _ _ HADD.out (HBc.out.setCell (p:=⟨w.heap.size,0,none⟩) (Nat.le_refl _) _)
   cases hv1
   have HNXX:=hid hnx
   clear hnx
   obtain ⟨wd,hwd⟩:∃ W,wc.setCell ⟨w.heap.size,0,none⟩ (.slice (some ⟨o1,0,none⟩) (k+1) cz)=W:=⟨_,rfl⟩
   rw [hwd] at g1 g2 g3 g4 HNXX ⊢
   clear hwd
   have hkc:(k:Int)<((k+1:Nat):Int):=by omega
   go_wp2_with fail
   go_roundw
   case rel=>exact HNXX.out
   case measure=>simp [intOf];omega
  ·obtain rfl:k=n:=by omega
   have t1:decide ((k:Int)<(k:Int))=false:=decide_eq_false (by omega)
   generalize k=n at *
   obtain ⟨o,c',he,hFx⟩:=HM.out.full HRL.out HN.out.1
   injection he with e1 _ e3
   subst e1
   subst e3
   generalize cv=c at *
   have HG1:=hid (⟨HM.out.congr fun i hi j hj=>HID.out i (by rw [← HRL.out];exact hi) j hj,HRL.out⟩:MxG w.heap.size w.heap.size n o c rs idM wr)
   obtain ⟨r,hr⟩:∃ r:Nat→Nat,(fun i=>rs.getD i 0)=r:=⟨_,rfl⟩
   have hri:∀ i,rs.getD i 0=r i:=fun i=>by rw [← hr]
   have HFUN:=hid (fun M W (h:MxG w.heap.size w.heap.size n o c rs M W)=>show MxF w.heap.size n M o c r W from by rw [← hr];exact h.f HN.out.1)
   have HSTO:=hid (fun M W (h:MxG w.heap.size w.heap.size n o c rs M W) i j (hi:i<n) (hj:j<n) (b:Bool)=>show MxG w.heap.size w.heap.size n o c rs (setM M i j b) (W.setCell ⟨r i,j,none⟩ (.bool b)) from by rw [← hri];exact h.store hi hj b)
   have HFRZ:=hid (fun M W (h:MxG w.heap.size w.heap.size n o c rs M W) i (hi:i<n) j=>show W.frozen? ⟨r i,j,none⟩=false from by rw [← hri];exact h.fz hi j)
   have HGE:=hid (fun M W (h:MxG w.heap.size w.heap.size n o c rs M W) i (hi:i<n)=>show w.heap.size≤r i from by rw [← hri];exact h.geB hi)
   have HB1:=hid HBR.out
   clear hFx hr hri hk
   go_wp2_with fail
   go_loopw [8,9,10] (fun kv v9 v10 wr=>∃ (k:Nat) (M:Mx),k≤NO∧kv = .int .i64 (k:Int)∧ordM n (od.take k) idM=some M∧MxG w.heap.size w.heap.size n o c rs M wr∧Below w.heap.size w wr) (fun kv _ _ _=>NO - (intOf kv).toNat)
   case atStart=>exact ⟨0,idM,Nat.zero_le _,rfl,rfl,HG1.out,HB1.out⟩
   case round =>
    obtain ⟨k,M,hk,rfl,hM,hG2,hB2⟩:=hrel
    have HG2:=hid hG2;have HB2:=hid hB2;have HM2:=hid hM
    clear hG2 hB2
    by_cases hlt2:k<NO
    ·have t2:decide ((k:Int)<(NO:Int))=true:=decide_eq_true (by omega)
     have hko:k<od.length:=by rw [HNO.out];exact hlt2
     obtain ⟨vb,off,rfl,hR,hcells⟩:=pair_at HV.out (by omega)
     obtain ⟨c0,c1⟩:=hcells k hko
     have d0:=(HB2.out.cell (p:=⟨vb,off+k*2,none⟩) hR).trans c0
     have d1:=(HB2.out.cell (p:=⟨vb,off+k*2+1,none⟩) hR).trans c1
     have HSTEP:=hid (ordM_step hko hM)
     clear hcells c0 c1 hR hM
     obtain ⟨⟨pa,pb⟩,hp⟩:∃ p,od[k]=p:=⟨_,rfl⟩
     rw [hp] at d0 d1 HSTEP
     have HPK:=hid hp
     clear hp
     simp only at d0 d1
     go_upto_region 14 with fail
     have hS:(fun W:World=>W.cell? ⟨vb,off+k*2,none⟩=some (.int .i64 pa)∧W.cell? ⟨vb,off+k*2+1,none⟩=some (.int .i64 pb)) wr.drew:=⟨d0,d1⟩
     have hFa:=fT
     refine rgN (fun W:World=>W.cell? ⟨vb,off+k*2,none⟩=some (.int .i64 pa)∧W.cell? ⟨vb,off+k*2+1,none⟩=some (.int .i64 pb)) 12 (by kernel_rfl) ?_
     simp only [List.size_toArray,List.length_cons,List.length_nil,Nat.reduceAdd]
     iterate 12 (refine wpHJ_nx (v:=?_) 12 rfl rfl (by kernel_rfl) nE hS ?_ ?_;rotate_left;(focus refine Or.inl ⟨by rfl,?_⟩;rintro w' ⟨s0,s1⟩;(try go_simp);try rfl);simp only [Act.put,actP,actQ])
     refine wpHJ_done (by kernel_rfl) ?_ _
     simp only [onlyN,Exit.then]
     clear hFa
     clear hS
     by_cases hpb:pairB n (pa,pb)=true
     ·obtain ⟨p1,p2,p3,p4⟩:=pair_true hpb
      have HM3:=hid (HSTEP.out.1 hpb)
      obtain ⟨a,ha⟩:∃ a:Nat,pa=(a:Int):=⟨pa.toNat,by omega⟩
      obtain ⟨b,hb⟩:∃ b:Nat,pb=(b:Int):=⟨pb.toNat,by omega⟩
      subst ha hb
      have han:a<n:=by simp only at p2;omega
      have hbn:b<n:=by simp only at p4;omega
      clear p1 p2 p3 p4 hpb
      have e1:decide ((a:Int)<0)=false:=decide_eq_false (by omega)
      have e2:decide ((n:Int)≤(a:Int))=false:=decide_eq_false (by omega)
      have e3:decide ((b:Int)<0)=false:=decide_eq_false (by omega)
      have e4:decide ((n:Int)≤(b:Int))=false:=decide_eq_false (by omega)
      have hF:=HFUN.out _ _ HG2.out
      have hhd:wr.drew.cell? ⟨w.heap.size,0,none⟩=_:=hF.hd
      have hhd':=hF.hd
      have hou:=hF.ou a han;have hro:=hF.ro a han b hbn;have hfz:=HFRZ.out _ _ HG2.out a han b;have hle:=hF.le
      have HNXT:=hid (show ∃ (k':Nat) (M':Mx),k'≤NO∧Value.int .i64 ((k:Int)+1) = .int .i64 (k':Int)∧ordM n (od.take k') idM=some M'∧MxG w.heap.size w.heap.size n o c rs M' ((wr.setCell ⟨r a,b,none⟩ (.bool true)).drew)∧Below w.heap.size w ((wr.setCell ⟨r a,b,none⟩ (.bool true)).drew) from
       ⟨k+1,_,hlt2,rfl,HM3.out,(HSTO.out _ _ HG2.out a b han hbn true).dr,(HB2.out.setCell (p:=⟨r a,b,none⟩) (HGE.out _ _ HG2.out a han) _).drew⟩)
      clear hF
      go_wp2_with fail
      go_roundw
      case rel=>exact HNXT.out
      case measure=>simp [intOf];omega
     ·have hpf:pairB n (pa,pb)=false:=by simpa using hpb
      have HBADL:=hid (fun (_:True)=>show latR=3 from by rw [← HLR.out];unfold rlatE;rw [if_neg (by have:=HN.out;omega),if_neg (by rw [HNO.out];exact HNO2.out),HSTEP.out.2 hpf])
      have hcs:=pair_false hpf
      clear hpb hpf
      rcases hcs with h | ⟨h1,h2⟩ | ⟨h1,h2,h3⟩ | ⟨h1,h2,h3,h4⟩
      ·have e1:decide (pa<0)=true:=decide_eq_true h
       clear h
       go_wp2_with fail
       go_ret2
       exact ⟨⟨_,by rw [HBADL.out trivial];rfl⟩,HB2.out.drew⟩
      ·have e1:decide (pa<0)=false:=decide_eq_false (by simp only at h1;omega)
       have e2:decide ((n:Int)≤pa)=true:=decide_eq_true h2
       clear h1 h2
       go_wp2_with fail
       go_ret2
       exact ⟨⟨_,by rw [HBADL.out trivial];rfl⟩,HB2.out.drew⟩
      ·have e1:decide (pa<0)=false:=decide_eq_false (by simp only at h1;omega)
       have e2:decide ((n:Int)≤pa)=false:=decide_eq_false (by simp only at h2;omega)
       have e3:decide (pb<0)=true:=decide_eq_true h3
       clear h1 h2 h3
       go_wp2_with fail
       go_ret2
       exact ⟨⟨_,by rw [HBADL.out trivial];rfl⟩,HB2.out.drew⟩
      ·have e1:decide (pa<0)=false:=decide_eq_false (by simp only at h1;omega)
       have e2:decide ((n:Int)≤pa)=false:=decide_eq_false (by simp only at h2;omega)
       have e3:decide (pb<0)=false:=decide_eq_false (by simp only at h3;omega)
       have e4:decide ((n:Int)≤pb)=true:=decide_eq_true h4
       clear h1 h2 h3 h4
       go_wp2_with fail
       go_ret2
       exact ⟨⟨_,by rw [HBADL.out trivial];rfl⟩,HB2.out.drew⟩
    ·obtain rfl:k=NO:=by omega
     have t2:decide ((k:Int)<(k:Int))=false:=decide_eq_false (by omega)
     have hM0:ordM n od idM=some M:=by rw [← HM2.out,← HNO.out,List.take_length]
     generalize M=M0 at *
     have HSOM:=hid (show rlatE n od=rlatT n (closeMK n n M0) from by unfold rlatE;rw [if_neg (by have:=HN.out;omega),if_neg (by rw [HNO.out];exact HNO2.out),hM0])
     clear hM0 hM hk
     have HTT:=hid (show latR=rlatT n (closeMK n n M0) from by rw [← HLR.out];exact HSOM.out)
     go_wp2_with fail
     go_loopw [11,12,13] (fun kv v12 v13 wr=>∃ k:Nat,k≤n∧kv = .int .i64 (k:Int)∧MxG w.heap.size w.heap.size n o c rs (closeMK n k M0) wr∧Below w.heap.size w wr) (fun kv _ _ _=>n - (intOf kv).toNat)
     case atStart=>exact ⟨0,Nat.zero_le _,rfl,HG2.out,HB2.out⟩
     case round =>
      obtain ⟨k,hk,rfl,hG3,hB3⟩:=hrel
      have HG3:=hid hG3;have HB3:=hid hB3
      clear hG3 hB3
      by_cases hk5:k<n
      ·have t3:decide ((k:Int)<(n:Int))=true:=decide_eq_true (by omega)
       go_wp2_with fail
       go_loopw [12,13] (fun iv v13 wr=>∃ i:Nat,i≤n∧iv = .int .i64 (i:Int)∧MxG w.heap.size w.heap.size n o c rs (closeMI k n i (closeMK n k M0)) wr∧Below w.heap.size w wr) (fun iv _ _=>n - (intOf iv).toNat)
       case atStart=>exact ⟨0,Nat.zero_le _,rfl,HG3.out,HB3.out⟩
       case round =>
        obtain ⟨i,hi,rfl,hG4,hB4⟩:=hrel
        have HG4:=hid hG4;have HB4:=hid hB4
        clear hG4 hB4
        by_cases hi5:i<n
        ·have t4:decide ((i:Int)<(n:Int))=true:=decide_eq_true (by omega)
         go_wp2_with fail
         go_loopw [13] (fun jv wr=>∃ j:Nat,j≤n∧jv = .int .i64 (j:Int)∧MxG w.heap.size w.heap.size n o c rs (closeJ k i j (closeMI k n i (closeMK n k M0))) wr∧Below w.heap.size w wr) (fun jv _=>n - (intOf jv).toNat)
         case atStart=>exact ⟨0,Nat.zero_le _,rfl,HG4.out,HB4.out⟩
         case round =>
          obtain ⟨j,hj,rfl,hG5,hB5⟩:=hrel
          have HG5:=hid hG5;have HB5:=hid hB5
          have HF5:=hid (show MxF w.heap.size n (closeJ k i j (closeMI k n i (closeMK n k M0))) o c r wr from HFUN.out _ _ hG5)
          clear hG5 hB5
          by_cases hlt5:j<n
          ·have t5:decide ((j:Int)<(n:Int))=true:=decide_eq_true (by omega)
           have hhd:=HF5.out.hd;have hou1:=HF5.out.ou i hi5;have hou2:=HF5.out.ou k hk5
           have z1:=HF5.out.ro i hi5 j hlt5;have z2:=HF5.out.ro i hi5 k hk5;have z3:=HF5.out.ro k hk5 j hlt5
           obtain ⟨q1,hq1⟩:∃ q,closeJ k i j (closeMI k n i (closeMK n k M0)) i j=q:=⟨_,rfl⟩
           obtain ⟨q2,hq2⟩:∃ q,closeJ k i j (closeMI k n i (closeMK n k M0)) i k=q:=⟨_,rfl⟩
           obtain ⟨q3,hq3⟩:∃ q,closeJ k i j (closeMI k n i (closeMK n k M0)) k j=q:=⟨_,rfl⟩
           rw [hq1] at z1
           rw [hq2] at z2
           rw [hq3] at z3
           have HFZ:=hid (HFRZ.out _ _ HG5.out i hi5 j)
           have HST5:=hid (fun (b:Bool) (hb:b=(q1 || q2 && q3))=>show ∃ j',j'≤n∧Value.int .i64 ((j:Int)+1) = .int .i64 (j':Int)∧MxG w.heap.size w.heap.size n o c rs (closeJ k i j' (closeMI k n i (closeMK n k M0))) ((wr.setCell ⟨r i,j,none⟩ (.bool b)).drew)∧Below w.heap.size w ((wr.setCell ⟨r i,j,none⟩ (.bool b)).drew) from by
            refine ⟨j+1,hlt5,rfl,?_,(HB5.out.setCell (p:=⟨r i,j,none⟩) (HGE.out _ _ HG5.out i hi5) _).drew⟩
            rw [closeJ_next,hq1,hq2,hq3,← hb]
            exact (HSTO.out _ _ HG5.out i j hi5 hlt5 b).dr)
           have HQ1:=hid True.intro
           clear hq1 hq2 hq3 hj
           cases q1
           ·cases q2
            go_upto_region 27 with fail
            have hS:(fun W=>W.cell? ⟨w.heap.size,0,none⟩=some (.slice (some ⟨o,0,none⟩) n c)∧W.cell? ⟨o,i,none⟩=some (.slice (some ⟨r i,0,none⟩) n n)∧W.cell? ⟨o,k,none⟩=some (.slice (some ⟨r k,0,none⟩) n n)∧W.cell? ⟨r i,j,none⟩=some (.bool false)∧W.cell? ⟨r i,k,none⟩=some (.bool false)∧W.cell? ⟨r k,j,none⟩=some (.bool q3)) wr.drew:=⟨HF5.out.hd,HF5.out.ou i hi5,HF5.out.ou k hk5,z1,z2,z3⟩
            have zz1:wr.drew.cell? ⟨r i,j,none⟩=some (.bool false):=z1
            have zf1:wr.drew.frozen? ⟨r i,j,none⟩=false:=HFZ.out
            have zf2:wr.frozen? ⟨r i,j,none⟩=false:=HFZ.out
            have hFa:=fT
            refine rgN (fun W=>W.cell? ⟨w.heap.size,0,none⟩=some (.slice (some ⟨o,0,none⟩) n c)∧W.cell? ⟨o,i,none⟩=some (.slice (some ⟨r i,0,none⟩) n n)∧W.cell? ⟨o,k,none⟩=some (.slice (some ⟨r k,0,none⟩) n n)∧W.cell? ⟨r i,j,none⟩=some (.bool false)∧W.cell? ⟨r i,k,none⟩=some (.bool false)∧W.cell? ⟨r k,j,none⟩=some (.bool q3)) 43 (by kernel_rfl) ?_
            simp only [List.size_toArray,List.length_cons,List.length_nil,Nat.reduceAdd]
            iterate 30 (refine wpHJ_nx (v:=?_) 44 rfl rfl (by kernel_rfl) nE hS ?_ ?_;rotate_left;(focus refine Or.inl ⟨by simp [Region.wanted,yielded,undef],?_⟩;rintro w' ⟨s0,s1,s2,s3,s4,s5⟩;go_simp;try rfl);simp only [Act.put,actP,actQ])
            iterate 10 (refine wpHJ_np (v:=?_) 44 rfl rfl (by kernel_rfl) nE (.inr hS) ?_ ?_;rotate_left;(focus (refine Or.inr ⟨?_,?_⟩;(focus (simp [Region.wanted,yielded,undef];done));rfl));simp only [Act.put,actP,actQ])
            iterate 3 (refine wpHJ_nx (v:=?_) 44 rfl rfl (by kernel_rfl) nE hS ?_ ?_;rotate_left;(focus refine Or.inl ⟨by simp [Region.wanted,yielded,undef],?_⟩;rintro w' ⟨s0,s1,s2,s3,s4,s5⟩;go_simp;try rfl);simp only [Act.put,actP,actQ])
            refine wpHJ_only 43 (by kernel_rfl) rfl (fun K hK=>?_)
            go_simp
            refine hK _ _ (.inl rfl) ?_
            clear hK K
            refine wpHJ_done (by kernel_rfl) ?_ _
            simp only [onlyN,Exit.then]
            clear hFa
            clear hS zz1 zf1 zf2
            go_wp2_with fail
            go_roundw
            case rel=>exact HST5.out false (by simp)
            case measure=>simp [intOf];omega
            ·
             go_upto_region 27 with fail
             have hS:(fun W=>W.cell? ⟨w.heap.size,0,none⟩=some (.slice (some ⟨o,0,none⟩) n c)∧W.cell? ⟨o,i,none⟩=some (.slice (some ⟨r i,0,none⟩) n n)∧W.cell? ⟨o,k,none⟩=some (.slice (some ⟨r k,0,none⟩) n n)∧W.cell? ⟨r i,j,none⟩=some (.bool false)∧W.cell? ⟨r i,k,none⟩=some (.bool true)∧W.cell? ⟨r k,j,none⟩=some (.bool q3)) wr.drew:=⟨HF5.out.hd,HF5.out.ou i hi5,HF5.out.ou k hk5,z1,z2,z3⟩
             have zz1:wr.drew.cell? ⟨r i,j,none⟩=some (.bool false):=z1
             have zf1:wr.drew.frozen? ⟨r i,j,none⟩=false:=HFZ.out
             have zf2:wr.frozen? ⟨r i,j,none⟩=false:=HFZ.out
             have hFa:=fT
             refine rgN (fun W=>W.cell? ⟨w.heap.size,0,none⟩=some (.slice (some ⟨o,0,none⟩) n c)∧W.cell? ⟨o,i,none⟩=some (.slice (some ⟨r i,0,none⟩) n n)∧W.cell? ⟨o,k,none⟩=some (.slice (some ⟨r k,0,none⟩) n n)∧W.cell? ⟨r i,j,none⟩=some (.bool false)∧W.cell? ⟨r i,k,none⟩=some (.bool true)∧W.cell? ⟨r k,j,none⟩=some (.bool q3)) 43 (by kernel_rfl) ?_
             simp only [List.size_toArray,List.length_cons,List.length_nil,Nat.reduceAdd]
             iterate 43 (refine wpHJ_nx (v:=?_) 44 rfl rfl (by kernel_rfl) nE hS ?_ ?_;rotate_left;(focus refine Or.inl ⟨by simp [Region.wanted,yielded,undef],?_⟩;rintro w' ⟨s0,s1,s2,s3,s4,s5⟩;go_simp;try rfl);simp only [Act.put,actP,actQ])
             refine wpHJ_only 43 (by kernel_rfl) rfl (fun K hK=>?_)
             go_simp
             refine hK _ _ (.inl rfl) ?_
             clear hK K
             refine wpHJ_done (by kernel_rfl) ?_ _
             simp only [onlyN,Exit.then]
             clear hFa
             clear hS zz1 zf1 zf2
             go_wp2_with fail
             go_roundw
             case rel=>exact HST5.out q3 (by simp)
             case measure=>simp [intOf];omega
           ·
            go_upto_region 27 with fail
            have hS:(fun W=>W.cell? ⟨w.heap.size,0,none⟩=some (.slice (some ⟨o,0,none⟩) n c)∧W.cell? ⟨o,i,none⟩=some (.slice (some ⟨r i,0,none⟩) n n)∧W.cell? ⟨o,k,none⟩=some (.slice (some ⟨r k,0,none⟩) n n)∧W.cell? ⟨r i,j,none⟩=some (.bool true)∧W.cell? ⟨r i,k,none⟩=some (.bool q2)∧W.cell? ⟨r k,j,none⟩=some (.bool q3)) wr.drew:=⟨HF5.out.hd,HF5.out.ou i hi5,HF5.out.ou k hk5,z1,z2,z3⟩
            have zz1:wr.drew.cell? ⟨r i,j,none⟩=some (.bool true):=z1
            have zf1:wr.drew.frozen? ⟨r i,j,none⟩=false:=HFZ.out
            have zf2:wr.frozen? ⟨r i,j,none⟩=false:=HFZ.out
            have hFa:=fT
            refine rgN (fun W=>W.cell? ⟨w.heap.size,0,none⟩=some (.slice (some ⟨o,0,none⟩) n c)∧W.cell? ⟨o,i,none⟩=some (.slice (some ⟨r i,0,none⟩) n n)∧W.cell? ⟨o,k,none⟩=some (.slice (some ⟨r k,0,none⟩) n n)∧W.cell? ⟨r i,j,none⟩=some (.bool true)∧W.cell? ⟨r i,k,none⟩=some (.bool q2)∧W.cell? ⟨r k,j,none⟩=some (.bool q3)) 43 (by kernel_rfl) ?_
            simp only [List.size_toArray,List.length_cons,List.length_nil,Nat.reduceAdd]
            iterate 19 (refine wpHJ_nx (v:=?_) 44 rfl rfl (by kernel_rfl) nE hS ?_ ?_;rotate_left;(focus refine Or.inl ⟨by rfl,?_⟩;rintro w' ⟨s0,s1,s2,s3,s4,s5⟩;go_simp;try rfl);simp only [Act.put,actP,actQ])
            iterate 22 (refine wpHJ_np (v:=?_) 44 rfl rfl (by kernel_rfl) nE (.inr hS) ?_ ?_;rotate_left;(focus (refine Or.inr ⟨?_,?_⟩;(focus (simp [Region.wanted,yielded,undef];done));rfl));simp only [Act.put,actP,actQ])
            iterate 2 (refine wpHJ_nx (v:=?_) 44 rfl rfl (by kernel_rfl) nE hS ?_ ?_;rotate_left;(focus refine Or.inl ⟨by rfl,?_⟩;rintro w' ⟨s0,s1,s2,s3,s4,s5⟩;go_simp;try rfl);simp only [Act.put,actP,actQ])
            refine wpHJ_only 43 (by kernel_rfl) rfl (fun K hK=>?_)
            go_simp
            refine hK _ _ (.inl rfl) ?_
            clear hK K
            refine wpHJ_done (by kernel_rfl) ?_ _
            simp only [onlyN,Exit.then]
            clear hFa
            clear hS zz1 zf1 zf2
            go_wp2_with fail
            go_roundw
            case rel=>exact HST5.out true (by simp)
            case measure=>simp [intOf];omega
          ·obtain rfl:j=n:=by omega
           have t5:decide ((j:Int)<(j:Int))=false:=decide_eq_false (by omega)
           go_wp2_with fail
           go_roundw
           case rel=>exact ⟨i+1,hi5,rfl,by rw [closeMI_next];exact HG5.out,HB5.out⟩
           case measure=>simp [intOf];omega
        ·obtain rfl:i=n:=by omega
         have t4:decide ((i:Int)<(i:Int))=false:=decide_eq_false (by omega)
         go_wp2_with fail
         go_roundw
         case rel=>exact ⟨k+1,hk5,rfl,by rw [closeMK_next];exact HG4.out,HB4.out⟩
         case measure=>simp [intOf];omega
      ·obtain rfl:k=n:=by omega
       have t3:decide ((k:Int)<(k:Int))=false:=decide_eq_false (by omega)
       generalize k=n at *
       obtain ⟨MF,hMF⟩:∃ M,closeMK n n M0=M:=⟨_,rfl⟩
       rw [hMF] at HG3 HTT
       generalize wr=w9 at *
       have HF9:=hid (HFUN.out _ _ HG3.out)
       have HB9:=hid HB3.out
       have HB9c:=hid (fun i j (h1:i<n) (h2:j<i) (h:(MF i j && MF j i)=true)=>show rlatT n MF=9 from by
        unfold rlatT
        have:loopyM MF n=true:=by
         unfold loopyM
         exact List.any_eq_true.2 ⟨i,List.mem_range.2 h1,List.any_eq_true.2 ⟨j,List.mem_range.2 h2,h⟩⟩
        rw [this,if_pos rfl])
       clear hMF hk
       go_wp2_with fail
       go_loopw [14,15] (fun iv jv wr=>∃ i:Nat,i≤n∧iv = .int .i64 (i:Int)∧(∀ i',i'<i→∀ j',j'<i'→(MF i' j' && MF j' i')=false)∧w9=wr) (fun iv _ _=>n - (intOf iv).toNat)
       case atStart=>exact ⟨0,Nat.zero_le _,rfl,fun i' h=>absurd h (Nat.not_lt_zero _),rfl⟩
       case round =>
        obtain ⟨i,hi,rfl,hno1,rfl⟩:=hrel
        have HNO1:=hid hno1
        clear hno1
        by_cases hi7:i<n
        ·have t6:decide ((i:Int)<(n:Int))=true:=decide_eq_true (by omega)
         go_wp2_with fail
         go_loopw [15] (fun jv wr=>∃ j:Nat,j≤i∧jv = .int .i64 (j:Int)∧(∀ j',j'<j→(MF i j' && MF j' i)=false)∧w9=wr) (fun jv _=>n - (intOf jv).toNat)
         case atStart=>exact ⟨0,Nat.zero_le _,rfl,fun j' h=>absurd h (Nat.not_lt_zero _),rfl⟩
         case round =>
          obtain ⟨j,hj,rfl,hno2,rfl⟩:=hrel
          by_cases hj7:j<i
          ·have t7:decide ((j:Int)<(i:Int))=true:=decide_eq_true (by omega)
           have hjn:j<n:=by omega
           have hhd:=HF9.out.hd;have hou1:=HF9.out.ou i hi7;have hou2:=HF9.out.ou j hjn
           have z1:=HF9.out.ro i hi7 j hjn;have z2:=HF9.out.ro j hjn i hi7
           have hle:=HF9.out.le
           have HBAD:=hid (fun (h:(MF i j && MF j i)=true)=>show rlatT n MF=9 from HB9c.out i j hi7 hj7 h)
           have HNX2:=hid (fun (h:(MF i j && MF j i)=false)=>show ∀ j',j'<j+1→(MF i j' && MF j' i)=false from fun j' h'=>by
            by_cases e:j'=j
            ·subst e;exact h
            ·exact hno2 j' (by omega))
           clear hno2
           cases h1:MF i j
           ·rw [h1] at z1 HNX2
            go_wp2_with fail
            go_roundw
            case rel=>exact ⟨j+1,by omega,rfl,HNX2.out rfl,by first | rfl | trivial⟩
            case measure=>simp [intOf];omega
           ·rw [h1] at z1 HNX2 HBAD
            cases h2:MF j i
            ·rw [h2] at z2 HNX2
             go_wp2_with fail
             go_roundw
             case rel=>exact ⟨j+1,by omega,rfl,HNX2.out rfl,by first | rfl | trivial⟩
             case measure=>simp [intOf];omega
            ·rw [h2] at z2 HBAD
             go_wp2_with fail
             go_ret2
             exact ⟨⟨_,by rw [HTT.out,HBAD.out rfl];rfl⟩,HB9.out⟩
          ·have t7:decide ((j:Int)<(i:Int))=false:=decide_eq_false (by omega)
           have HNX:=hid (show ∀ i',i'<i+1→∀ j',j'<i'→(MF i' j' && MF j' i')=false from fun i' h'=>by
            by_cases e:i'=i
            ·subst e;exact fun j' h=>hno2 j' (by omega)
            ·exact HNO1.out i' (by omega))
           clear hno2
           go_wp2_with fail
           go_roundw
           case rel=>exact ⟨i+1,hi7,rfl,HNX.out,by first | rfl | trivial⟩
           case measure=>simp [intOf];omega
        ·obtain rfl:i=n:=by omega
         have t6:decide ((i:Int)<(i:Int))=false:=decide_eq_false (by omega)
         have HNL:=hid (show loopyM MF i=false from by
          unfold loopyM
          rw [List.any_eq_false]
          intro i' h'
          rw [Bool.not_eq_true,List.any_eq_false]
          intro j' h''
          rw [Bool.not_eq_true]
          exact HNO1.out i' (List.mem_range.1 h') j' (List.mem_range.1 h''))
         have HB4c:=hid (fun i' j' (h1:i'<i) (h2:j'<i) (h:(joinM MF i i' j' && meetM MF i i' j')=false)=>show rlatT i MF=4 from by
          unfold rlatT
          rw [HNL.out,if_neg (by simp)]
          have:boundsM MF i=false:=by
           unfold boundsM
           rw [List.all_eq_false]
           refine ⟨i',List.mem_range.2 h1,?_⟩
           rw [Bool.not_eq_true,List.all_eq_false]
           exact ⟨j',List.mem_range.2 h2,by rw [h];simp⟩
          rw [this,if_neg (by simp)])
         have HB0c:=hid (fun (h:∀ i',i'<i→∀ j',j'<i→(joinM MF i i' j' && meetM MF i i' j')=true)=>show rlatT i MF=0 from by
          unfold rlatT
          rw [HNL.out,if_neg (by simp)]
          have:boundsM MF i=true:=by
           unfold boundsM
           rw [List.all_eq_true]
           intro i' h1
           rw [List.all_eq_true]
           exact fun j' h2=>h i' (List.mem_range.1 h1) j' (List.mem_range.1 h2)
          rw [this,if_pos rfl])
         go_wp2_with fail
         go_loopw [16,17] (fun iv jv wr=>∃ i':Nat,i'≤i∧iv = .int .i64 (i':Int)∧(∀ a,a<i'→∀ b,b<i→(joinM MF i a b && meetM MF i a b)=true)∧w9=wr) (fun iv _ _=>i - (intOf iv).toNat)
         case atStart=>exact ⟨0,Nat.zero_le _,rfl,fun a h=>absurd h (Nat.not_lt_zero _),rfl⟩
         case round =>
          have hnn:=HN.out
          generalize i=n at *
          obtain ⟨i,hi,rfl,hno1,rfl⟩:=hrel
          have HNO1:=hid hno1
          clear hno1
          by_cases hi9:i<n
          ·have t8:decide ((i:Int)<(n:Int))=true:=decide_eq_true (by omega)
           go_wp2_with fail
           go_loopw [17] (fun jv wr=>∃ j:Nat,j≤n∧jv = .int .i64 (j:Int)∧(∀ j',j'<j→(joinM MF n i j' && meetM MF n i j')=true)∧w9=wr) (fun jv _=>n - (intOf jv).toNat)
           case atStart=>exact ⟨0,Nat.zero_le _,rfl,fun j' h=>absurd h (Nat.not_lt_zero _),rfl⟩
           case round =>
            obtain ⟨j,hj,rfl,hno2,rfl⟩:=hrel
            by_cases hj9:j<n
            ·have t9:decide ((j:Int)<(n:Int))=true:=decide_eq_true (by omega)
             have HJ:=hid (join_rf w.heap.size n MF o c r i j w9 HF9.out hi9 hj9 HN.out.2)
             have HMt:=hid (meet_rf w.heap.size n MF o c r i j w9 HF9.out hi9 hj9 HN.out.2)
             have HBAD:=hid (fun (h:(joinM MF n i j && meetM MF n i j)=false)=>show rlatT n MF=4 from HB4c.out i j hi9 hj9 h)
             have HNX2:=hid (fun (h:(joinM MF n i j && meetM MF n i j)=true)=>show ∀ j',j'<j+1→(joinM MF n i j' && meetM MF n i j')=true from fun j' h'=>by
              by_cases e:j'=j
              ·subst e;exact h
              ·exact hno2 j' (by omega))
             clear hno2
             cases hjm:joinM MF n i j
             ·rw [hjm] at HJ HBAD
              go_wp2_with (first
               | (go_at_call 66;(with_reducible refine HJ.out.mono ?_);rintro e wx ⟨⟨z,rfl,hz⟩,hw⟩;subst hw;have tz:decide (z<0)=true:=decide_eq_true (by have:=of_decide_eq_false hz;omega)))
              go_ret2
              exact ⟨⟨_,by rw [HTT.out,HBAD.out rfl];rfl⟩,HB9.out⟩
             ·rw [hjm] at HJ HBAD HNX2
              cases hmm:meetM MF n i j
              ·rw [hmm] at HMt HBAD
               go_wp2_with (first
                | (go_at_call 66;(with_reducible refine HJ.out.mono ?_);rintro e wx ⟨⟨z,rfl,hz⟩,hw⟩;subst hw;have tz:decide (z<0)=false:=decide_eq_false (by have:=of_decide_eq_true hz;omega))
                | (go_at_call 67;(with_reducible refine HMt.out.mono ?_);rintro e wx ⟨⟨y,rfl,hy⟩,hw⟩;subst hw;have ty:decide (y<0)=true:=decide_eq_true (by have:=of_decide_eq_false hy;omega)))
               go_ret2
               exact ⟨⟨_,by rw [HTT.out,HBAD.out rfl];rfl⟩,HB9.out⟩
              ·rw [hmm] at HMt HNX2
               go_wp2_with (first
                | (go_at_call 66;(with_reducible refine HJ.out.mono ?_);rintro e wx ⟨⟨z,rfl,hz⟩,hw⟩;subst hw;have tz:decide (z<0)=false:=decide_eq_false (by have:=of_decide_eq_true hz;omega))
                | (go_at_call 67;(with_reducible refine HMt.out.mono ?_);rintro e wx ⟨⟨y,rfl,hy⟩,hw⟩;subst hw;have ty:decide (y<0)=false:=decide_eq_false (by have:=of_decide_eq_true hy;omega)))
               go_roundw
               case rel=>exact ⟨j+1,hj9,rfl,HNX2.out rfl,by first | rfl | trivial⟩
               case measure=>simp [intOf];omega
            ·obtain rfl:j=n:=by omega
             have t9:decide ((j:Int)<(j:Int))=false:=decide_eq_false (by omega)
             have HNX:=hid (show ∀ i',i'<i+1→∀ j',j'<j→(joinM MF j i' j' && meetM MF j i' j')=true from fun i' h'=>by
              by_cases e:i'=i
              ·subst e;exact hno2
              ·exact HNO1.out i' (by omega))
             clear hno2
             go_wp2_with fail
             go_roundw
             case rel=>exact ⟨i+1,hi9,rfl,HNX.out,by first | rfl | trivial⟩
             case measure=>simp [intOf];omega
          ·obtain rfl:i=n:=by omega
           have t8:decide ((i:Int)<(i:Int))=false:=decide_eq_false (by omega)
           have HOK:=hid (show rlatT i MF=0 from HB0c.out HNO1.out)
           go_wp2_with fail
           go_ret2
           exact ⟨⟨_,by rw [HTT.out,HOK.out];rfl⟩,HB9.out⟩
end Go.Proofs.YtbijamcoibonkaaDoor
