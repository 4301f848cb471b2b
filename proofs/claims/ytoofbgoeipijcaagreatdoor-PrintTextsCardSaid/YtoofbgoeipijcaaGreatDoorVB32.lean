/-
 The reference of layer 22: Sites.
-/
import Derived.Test.YtoofbgoeipijcaaGreatDoorVB30
import Derived.Deep.DeepCutAuto
import Derived.Test.YtoofbgoeipijcaaGreatDoorVB31
namespace Go.Proofs.YtoofbgoeipijcaaGreatDoor
set_option linter.unusedSimpArgs false
set_option linter.unusedVariables false
open Go.RowKit Go.Shelf
attribute [local go_sem] Oper.semAt_some
def allC (p:Pg) (k:Nat):List In:=((List.range k).map (bodyAt p)).flatten
theorem allC_next (p:Pg) (k:Nat):allC p (k+1)=allC p k++bodyAt p k:=by
 unfold allC
 rw [List.range_succ,List.map_append,List.flatten_append]
 simp
theorem allC_funcs (p:Pg):∀ k,k≤p.funcs.length→allC p k=codes (p.funcs.take k)
 | 0,_=>by simp [allC,codes]
 | k+1,h=>by
  rw [allC_next,allC_funcs p k (by omega),List.take_succ_eq_append_getElem (by omega:k<p.funcs.length)]
  unfold codes bodyAt
  rw [dif_pos (by omega:k<p.funcs.length)]
  simp only [List.map_append,List.map_cons,List.map_nil,List.flatten_append,List.flatten_cons,List.flatten_nil,List.append_nil]
theorem allC_all (p:Pg):allC p (p.funcs.length+1)=codes p.funcs++p.main:=by
 rw [allC_next,allC_funcs p _ (Nat.le_refl _),List.take_length]
 unfold bodyAt
 rw [dif_neg (by omega)]
theorem allC_len (p:Pg) (j k:Nat) (h:j≤k):(allC p j).length≤(allC p k).length:=by
 induction k with
 | zero =>
  obtain rfl:j=0:=by omega
  exact Nat.le_refl _
 | succ k ih =>
  by_cases e:j=k+1
  ·rw [e];exact Nat.le_refl _
  ·rw [allC_next,List.length_append];have:=ih (by omega);omega
theorem sites_app:∀ (l m:List In) (s:List Bs),sitesM s (l++m)=sitesM (sitesM s l) m
 | [],m,s=>rfl
 | x :: r,m,s=>by
  simp only [List.cons_append,sitesM]
  split
  ·exact sites_app r m _
  ·exact sites_app r m _
theorem sites_len:∀ (l:List In) (s:List Bs),(sitesM s l).length≤s.length+l.length
 | [],s=>by simp [sitesM]
 | x :: r,s=>by
  simp only [sitesM]
  split
  ·have:=sites_len r (s++[x.nm]);simp at this ⊢;omega
  ·have:=sites_len r s;simp at this ⊢;omega
set_option maxRecDepth 100000 in
set_option maxHeartbeats 4000000 in
theorem rsites_any (p:Pg) (a b c d:Value) (w:World) (hp:PgV (·<w.heap.size) w a b c d p) (hf:p.funcs.length≤1000000) (hl:(codes p.funcs++p.main).length≤1000000) :
  Calls Tryz.prog 133 #[.agg #[.int .i64 p.width,a,b,c,d]] w fun e w'=>∃ v',e = .returned v'∧GF kStr w.heap.size 9 w' v' (sitesP p)∧Below w.heap.size w w':=by
 obtain ⟨pa,ca,hva⟩:=hp.1.slc
 obtain ⟨pb,cb,hvb⟩:=hp.2.1.slc
 obtain ⟨pc,cc,hvc⟩:=hp.2.2.1.slc
 obtain ⟨pd,cd,hvd⟩:=hp.2.2.2.slc
 subst hva hvb hvc hvd
 have HP:=hid hp
 have HL:=hid hl;have HF:=hid hf
 clear hp hl hf
 obtain ⟨wo,hwo⟩:∃ W,w.alloc (.cells #[.int .i64 p.width,.slice pa p.chans.length ca,.slice pb p.arrays.length cb,.slice pc p.funcs.length cc,.slice pd p.main.length cd] 27)=W:=⟨_,rfl⟩
 have HWO:=hid hwo
 have HX:=hid (show BxL 27 w.heap.size [.int .i64 p.width,.slice pa p.chans.length ca,.slice pb p.arrays.length cb,.slice pc p.funcs.length cc,.slice pd p.main.length cd] wo from by rw [← hwo];exact BxL.new _ _ _)
 have HB:=hid (show Below w.heap.size w wo from by rw [← hwo];exact (Below.refl _ _).alloc (Nat.le_refl _) _)
 have HG:=hid (show PgV (·<wo.heap.size) wo (.slice pa p.chans.length ca) (.slice pb p.arrays.length cb) (.slice pc p.funcs.length cc) (.slice pd p.main.length cd) p from HP.out.below HB.out)
 clear hwo
 have HBL:=hid (show ∀ k m,k≤p.funcs.length→(sitesM [] (allC p k++(bodyAt p k).take m)).length≤1000000 from fun k m hk=>by
  have h1:=sites_len (allC p k++(bodyAt p k).take m) []
  have h2:=allC_len p (k+1) (p.funcs.length+1) (by omega)
  have h3:=HL.out
  rw [allC_all,allC_next] at h2
  simp only [List.length_append,List.length_take,List.length_nil] at h1 h2 h3
  omega)
 have n3:wo.cell? ⟨w.heap.size,3,none⟩=some (.slice pc p.funcs.length cc):=HX.out.at 3 rfl
 go_enter Tryz.func133,Tryz.ntmps133
 go_upto_region 1 with fail
 rw [HWO.out]
 go_wp2_with fail
 clear n3
 go_loopw [3,4,5,6] (fun ov iv u5 u6 wr=>∃ k:Nat,k≤p.funcs.length+1∧iv = .int .i64 (k:Int)∧GA kStr wo.heap.size 9 wr ov (sitesM [] (allC p k))∧Below wo.heap.size wo wr) (fun _ iv _ _ _=>p.funcs.length+1 - (intOf iv).toNat)
 case atStart=>exact ⟨0,Nat.zero_le _,rfl,GA.nil _ _ _ _,Below.refl _ _⟩
 case round =>
  obtain ⟨k,hk,rfl,hga,hbr⟩:=hrel
  obtain ⟨T,hT⟩:∃ T,sitesM [] (allC p k)=T:=⟨_,rfl⟩
  rw [hT] at hga
  have HTD:=hid hT
  clear hT
  obtain ⟨po,co,rfl⟩:=hga.slc
  obtain ⟨wi,rfl⟩:∃ wi:World,wi=wr:=⟨_,rfl⟩
  obtain ⟨n0,n1,n2,n3,n4⟩:=(HX.out.bel hbr).p5
  have HBI:=hid hbr;have HGI:=hid hga
  clear hbr hga
  by_cases hlt:k≤p.funcs.length
  ·have hd:decide ((k:Int)≤(p.funcs.length:Int))=true:=by simp;omega
   have HK:=hid hlt
   have HPI:=hid (show PgV (·<wo.heap.size) wi (.slice pa p.chans.length ca) (.slice pb p.arrays.length cb) (.slice pc p.funcs.length cc) (.slice pd p.main.length cd) p from HG.out.keep fun j hj=>⟨hj,HBI.out.block j hj⟩)
   obtain ⟨L,hL⟩:∃ L,bodyAt p k=L:=⟨_,rfl⟩
   have HLd:=hid hL
   have HLb:=hid (show ∀ m,(sitesM [] (allC p k++L.take m)).length≤1000000 from fun m=>by rw [← hL];exact HBL.out k m hlt)
   have HL2:=hid (show L.length≤1000000 from by
    have h2:=allC_len p (k+1) (p.funcs.length+1) (by omega)
    have h3:=HL.out
    rw [allC_all,allC_next,hL] at h2
    simp only [List.length_append] at h2 h3
    omega)
   have HLN:=hid (show sitesM [] (allC p (k+1))=sitesM [] (allC p k++L) from by rw [allC_next,hL])
   clear hL
   go_wp2_with (go_at_call 134;(refine (rbodyat_any p _ _ _ _ k _ _ HPI.out (fun j hj=>Nat.lt_of_lt_of_le hj HBI.out.size)).mono ?_);rintro e w3 ⟨v3,rfl,hs,hb3⟩;rw [HLd.out] at hs;obtain ⟨p3,c3,rfl⟩:=hs.slc;have HB3:=hid (HBI.out.trans (hb3.mono HBI.out.size));have HG3:=hid (HGI.out.keep hb3);have HSo:=hid (show SlG kIn (·<wo.heap.size) wo (.slice p3 L.length c3) L from hs.keep fun j hj=>⟨hj,(HB3.out.block j hj).symm⟩);clear hs hb3 n0 n1 n2 n3 n4)
   go_loopw [3,6] (fun ov jv ws=>∃ m:Nat,m≤L.length∧jv = .int .i64 (m:Int)∧GA kStr wo.heap.size 9 ws ov (sitesM [] (allC p k++L.take m))∧Below wo.heap.size wo ws) (fun _ jv _=>L.length - (intOf jv).toNat)
   case atStart=>exact ⟨0,Nat.zero_le _,rfl,by rw [List.take_zero,List.append_nil,HTD.out];exact HG3.out,HB3.out⟩
   case round =>
    obtain ⟨m,hm,rfl,hga,hbr⟩:=hrel
    obtain ⟨T2,hT2⟩:∃ T,sitesM [] (allC p k++L.take m)=T:=⟨_,rfl⟩
    rw [hT2] at hga
    have HT2:=hid hT2
    have HLT2:=hid (show T2.length≤1000000 from by rw [← hT2];exact HLb.out m)
    clear hT2
    obtain ⟨po,co,rfl⟩:=hga.slc
    by_cases hlm:m<L.length
    ·obtain ⟨b,off,rfl,hR,hcells⟩:=in_at HSo.out (by omega:0<L.length)
     obtain ⟨pi,ci,hargs,q0,q1,q2,q3,q4,q5,q6⟩:=hcells m hlm
     have q0:=(hbr.cell (p:=⟨b,off+m*7,none⟩) hR).trans q0
     have q3:=(hbr.cell (p:=⟨b,off+m*7+3,none⟩) hR).trans q3
     have HST:=hid (show sitesM [] (allC p k++L.take (m+1))=if (L[m]).kind=7∧T2.contains (L[m]).nm=false then T2++[(L[m]).nm] else T2 from by
      rw [List.take_succ_eq_append_getElem hlm,← List.append_assoc,sites_app,HT2.out];simp only [sitesM])
     have HBO:=hid hbr;have HGO:=hid hga;have HLM:=hid hlm
     clear hcells hargs hR hbr hga HT2 q1 q2 q4 q5 q6
     generalize L[m]=x at *
     clear hlm
     have HKS:=hid (show SlG kStr (·<wr.heap.size) wr (.slice po T2.length co) T2 from HGO.out.gfS.slw (by have:=HLT2.out;omega))
     by_cases hk7:x.kind=7
     ·replace q0:wr.cell? ⟨b,off+m*7,none⟩=some (.int .u8 7):=by rw [q0,hk7];rfl
      obtain ⟨cc2,hcc⟩:∃ cc,T2.contains x.nm=cc:=⟨_,rfl⟩
      have HCC:=hid hcc
      have HK7:=hid hk7
      clear hcc hk7
      generalize x.nm=y at *
      by_cases hcb:cc2=true
      ·have hnot:(!cc2)=false:=by rw [hcb];rfl
       have HCB:=hid hcb
       clear hcb
       have HSQ:=hid (HST.out.trans (if_neg (by rw [HCC.out,HCB.out];simp)))
       clear HST
       go_wp2_with (go_at_call 132;(refine (ris_any T2 y _ _ _ HKS.out).mono ?_);rintro e w4 ⟨rfl,rfl⟩;rw [HCC.out])
       go_roundw
       case rel=>exact ⟨m+1,HLM.out,by first | (rw [wrap_next HLM.out (by have:=HL2.out;omega)]) | rfl,by rw [HSQ.out];exact HGO.out,HBO.out⟩
       case measure=>first | exact meas_next HLM.out (by have:=HL2.out;omega) | (have h1:=HLM.out;simp [intOf];omega)
      ·have hcf:cc2=false:=by simpa using hcb
       have hnot:(!cc2)=true:=by rw [hcf];rfl
       have HCB:=hid hcf
       clear hcb hcf
       have HSQ:=hid (HST.out.trans (if_pos ⟨HK7.out,HCC.out.trans HCB.out⟩))
       clear HST
       go_wp2_with (first
        | (go_at_call 132;(refine (ris_any T2 y _ _ _ HKS.out).mono ?_);rintro e w4 ⟨rfl,rfl⟩;rw [HCC.out])
        | (at_builtin;refine wpList_push (K:=kStr) (x:=y) (cs:=[.string ⟨y.toArray⟩]) (te:=9) rfl _ _ 22 rfl Tryz.underlying22 _ 16 info_strG rfl HGO.out rfl rfl rfl (by have:=HLT2.out;omega) (by have:=HLT2.out;unfold maxLen;omega) HBO.out.size ?_;intro v5 w5 hg5 hgr5 hm5;have HG5:=hid hg5;have HB5:=hid (below_push HGO.out HBO.out hgr5 HBO.out.size);clear hg5 hgr5 hm5))
       go_roundw
       case rel=>exact ⟨m+1,HLM.out,by first | (rw [wrap_next HLM.out (by have:=HL2.out;omega)]) | rfl,by rw [HSQ.out];exact HG5.out,HB5.out⟩
       case measure=>first | exact meas_next HLM.out (by have:=HL2.out;omega) | (have h1:=HLM.out;simp [intOf];omega)
     ·have hwd:((x.kind:Int) == 7)=false:=by rw [beq_eq_false_iff_ne];omega
      have HSQ:=hid (HST.out.trans (if_neg (fun h=>hk7 h.1)))
      clear HST hk7
      go_wp2_with fail
      go_roundw
      case rel=>exact ⟨m+1,HLM.out,by first | (rw [wrap_next HLM.out (by have:=HL2.out;omega)]) | rfl,by rw [HSQ.out];exact HGO.out,HBO.out⟩
      case measure=>first | exact meas_next HLM.out (by have:=HL2.out;omega) | (have h1:=HLM.out;simp [intOf];omega)
    ·obtain rfl:m=L.length:=by omega
     have HBR:=hid hbr;have HGA:=hid hga
     clear hlm hbr hga
     go_wp2_with fail
     go_roundw
     case rel=>exact ⟨k+1,by have:=HK.out;omega,by first | (rw [wrap_next (show k<1000001 by have:=HK.out;have:=HF.out;omega) (by decide)]) | rfl,by rw [HLN.out];have h:=HT2.out;rw [List.take_length] at h;rw [h];exact HGA.out,HBR.out⟩
     case measure=>(have h1:=HK.out;have h2:=HF.out;rw [wrap_next (show k<1000001 by omega) (by decide)];show _ - ((k+1:Nat):Int).toNat<_ - ((k:Nat):Int).toNat;omega)
  ·obtain rfl:k=p.funcs.length+1:=by omega
   have hd:decide ((p.funcs.length:Int)+1≤(p.funcs.length:Int))=false:=by simp;omega
   go_wp2_with fail
   go_ret
   have hT:=HTD.out
   rw [allC_all] at hT
   have hga:=HGI.out
   have hsp:sitesP p=T:=hT
   rw [hsp]
   exact ⟨_,rfl,hga.gfS.base HB.out.size,HB.out.trans (HBI.out.mono HB.out.size)⟩
end Go.Proofs.YtoofbgoeipijcaaGreatDoor
namespace Go.Proofs.YtoofbgoeipijcaaGreatDoor
set_option linter.unusedSimpArgs false
set_option linter.unusedVariables false
open Go.RowKit Go.Shelf
theorem find_of_find (p:Pg) (s:Bs):(p.funcs.find? fun f=>decide (f.nm=s))=(findM p s).bind fun k=>p.funcs[k]?:=by
 unfold findM
 cases h:p.funcs.findIdx? (fun f=>decide (f.nm=s)) with
 | none =>
  rw [Option.bind_none,List.find?_eq_none]
  rw [List.findIdx?_eq_none_iff] at h
  intro x hx;have:=h x hx;simpa using this
 | some k =>
  rw [Option.bind_some]
  obtain ⟨hk,h1,h2⟩:=List.findIdx?_eq_some_iff_getElem.1 h
  rw [List.getElem?_eq_getElem hk,List.find?_eq_some_iff_getElem]
  exact ⟨h1,k,hk,rfl,fun j hj=>by have:=h2 j hj;simpa using this⟩
theorem find_lt {p:Pg} {s:Bs} {k:Nat} (h:findM p s=some k):k<p.funcs.length:=by
 unfold findM at h
 exact (List.findIdx?_eq_some_iff_getElem.1 h).1
end Go.Proofs.YtoofbgoeipijcaaGreatDoor
