/-
 A part.
-/
import Derived.Test.YtoofbgoeipijcaaGreatDoorVSPi
import Derived.Test.YtoofbgoeipijcaaGreatDoorVSPcC
namespace Go.Proofs.YtoofbgoeipijcaaGreatDoor
set_option maxRecDepth 100000
set_option maxHeartbeats 4000000
set_option linter.all false
open Go.RowKit Go.Shelf
attribute [local go_sem] Oper.semAt_some
theorem SlG.cap {α:Type} {K:EK α} {R:Nat->Prop} {w:World} {p:Option Addr} {n c:Nat} {l:List α} (h:SlG K R w (.slice p n c) l):l.length<=c:=by
 obtain ⟨_,_,p',c',e,h1,_⟩:=h
 cases e;exact h1
theorem take_contains (l:List Bs) (s:Bs) (k:Nat) (hk:k<l.length) (h:(l.take k).contains s=false) (hx:l[k] ≠ s):(l.take (k+1)).contains s=false:=by
 rw [List.take_succ_eq_append_getElem hk,Bool.eq_false_iff]
 intro e
 rw [List.contains_iff_mem,List.mem_append] at e
 rcases e with e | e
 ·rw [<- List.contains_iff_mem,h] at e;cases e
 ·exact hx (List.mem_singleton.1 e).symm
theorem ris_any (l:List Bs) (s:Bs) (v:Value) (R:Nat->Prop) (w:World) (h:SlG kStr R w v l) :
  Calls Tryz.prog 132 #[v,.string ⟨s.toArray⟩] w fun e w'=>e=.returned (.bool (l.contains s))/\w'=w:=by
 obtain ⟨p,c,rfl⟩:=h.slc
 have HS:=hid h
 obtain ⟨r,hr⟩:∃ r,l.contains s=r:=⟨_,rfl⟩
 have HR:=hid hr
 rw [hr]
 clear h hr
 go_enter Tryz.func132,Tryz.ntmps132
 go_wp2
 go_loopw [5] (fun iv wr=>∃ k:Nat,k<=l.length/\iv=.int .i64 (k:Int)/\(l.take k).contains s=false/\w=wr) (fun iv _=>l.length - (intOf iv).toNat)
 case atStart=>exact ⟨0,Nat.zero_le _,rfl,by simp,rfl⟩
 case round =>
  obtain ⟨k,hk,rfl,hc,rfl⟩:=hrel
  have HC:=hid hc
  clear hc
  by_cases hlt:k<l.length
  ·obtain ⟨b,off,rfl,hR,hcells⟩:=str_at HS.out (by omega:0<l.length)
   have d0:=hcells k hlt
   have HLT:=hid hlt
   clear hcells hR
   have HNX:=hid (fun hx=>take_contains l s k hlt HC.out hx)
   have HRT:=hid (show l[k]=s->r=true from fun hx=>by rw [<- HR.out,List.contains_iff_mem,<- hx];exact List.getElem_mem hlt)
   generalize l[k]=x at *
   by_cases hx:x=s
   ·subst hx
    have HRU:=hid (HRT.out rfl)
    clear HRT HNX
    go_wp2_with fail
    go_ret
    have h9:=HRU.out
    subst h9
    first | exact ⟨rfl,rfl⟩ | exact ⟨rfl,trivial⟩
   ·have HNY:=hid (HNX.out hx)
    clear HNX HRT
    have hwd:=str_neF hx
    clear hx
    go_wp2_with fail
    go_roundw
    case rel=>exact ⟨k+1,HLT.out,by rw [wrap_next HLT.out HS.len],HNY.out,by first | rfl | trivial⟩
    case measure=>exact meas_next HLT.out HS.len
  ·obtain rfl:k=l.length:=by omega
   have HRF:=hid (show r=false from by rw [<- HR.out];have h:=HC.out;rwa [List.take_length] at h)
   clear hlt
   go_wp2_with fail
   go_ret
   have h9:=HRF.out
   subst h9
   first | exact ⟨rfl,rfl⟩ | exact ⟨rfl,trivial⟩
theorem rnames22_any (l:List Bs) (v:Value) (R:Nat->Prop) (w:World) (h:SlG kStr R w v l) (hR:∀ k,R k->k<w.heap.size) (hs:∀ s ∈ l,s.length<=140737488355328) :
  Calls Tryz.prog 90 #[v] w fun e w'=>e=.returned (.int .i64 (rnamesM l))/\Below w.heap.size w w':=by
 obtain ⟨p,c,rfl⟩:=h.slc
 have HS:=hid h;have HB:=hid hR;have HL:=hid hs
 obtain ⟨r,hr⟩:∃ r,rnamesM l=r:=⟨_,rfl⟩
 have HR:=hid hr
 rw [hr]
 clear h hr hR hs
 by_cases hlong:32<l.length
 ·have HRL:=hid (show r=5 from by rw [<- HR.out];unfold rnamesM;rw [if_pos hlong])
  have hd:decide ((32:Int)<(l.length:Int))=true:=by simp;omega
  go_enter Tryz.func90,Tryz.ntmps90
  go_wp2_with fail
  go_ret
  have h9:=HRL.out
  subst h9
  exact ⟨rfl,Below.refl _ _⟩
 have hd:decide ((32:Int)<(l.length:Int))=false:=by simp;omega
 have HD0:=hid (show declM (0,0) [] l=none->r=0 from fun e=>by rw [<- HR.out];unfold rnamesM;rw [if_neg hlong,e])
 have HD1:=hid (show ∀ f,declM (0,0) [] l=some f->r=f.2 from fun f e=>by rw [<- HR.out];unfold rnamesM;rw [if_neg hlong,e])
 go_enter Tryz.func90,Tryz.ntmps90
 go_wp2_with fail
 clear hd
 go_loopw [3] (fun iv wr=>∃ k:Nat,k<=l.length/\iv=.int .i64 (k:Int)/\declM (0,0) (l.take k) (l.drop k)=declM (0,0) [] l/\Below w.heap.size w wr) (fun iv _=>l.length - (intOf iv).toNat)
 case atStart=>exact ⟨0,Nat.zero_le _,rfl,by simp,Below.refl _ _⟩
 case round =>
  obtain ⟨k,hk,rfl,hc,hb⟩:=hrel
  have HBW:=hid hb
  by_cases hlt:k<l.length
  ·obtain ⟨b,off,rfl,hRb,hcells⟩:=str_at HS.out (by omega:0<l.length)
   have d0:=(hb.cell (p:=⟨b,off+k,none⟩) (HB.out b hRb)).trans (hcells k hlt)
   have HRBB:=hid hRb
   have HLT:=hid hlt
   have HLX:=hid (HL.out l[k] (List.getElem_mem hlt))
   have hdr:l.drop k=l[k] :: l.drop (k+1):=List.drop_eq_getElem_cons hlt
   have htk:l.take (k+1)=l.take k++[l[k]]:=List.take_succ_eq_append_getElem hlt
   rw [hdr] at hc
   simp only [declM] at hc
   have HC:=hid hc;have HTK:=hid htk
   have HCU:=hid (show SlG kStr R w (.slice (some ⟨b,off,none⟩) k c) (l.take k) from HS.cut k hk)
   clear hcells hRb hdr htk hc hb
   generalize l[k]=x at *
   by_cases hn:namedB x=false
   ·have HRF:=hid (show r=4 from HD1.out _ (by rw [<- HC.out,if_pos hn]))
    have HNB:=hid hn
    clear HC HTK hn
    go_wp2_with (go_at_call 131;(refine (rnamed_any x _ HLX.out).mono ?_);rintro e w2 ⟨rfl,hb2⟩;rw [HNB.out];have HB2:=hid (HBW.out.trans (hb2.mono HBW.out.size));clear hb2 d0)
    go_ret
    have h9:=HRF.out
    subst h9
    exact ⟨rfl,HB2.out⟩
   ·have HNB:=hid (show namedB x=true from by simpa using hn)
    have hc2:=HC.out
    rw [if_neg hn] at hc2
    have HC2:=hid hc2
    clear HC hn hc2
    have HRB:=hid (HB.out b HRBB.out)
    go_upto_region 8 with (go_at_call 131;(refine (rnamed_any x _ HLX.out).mono ?_);rintro e w2 ⟨rfl,hb2⟩;rw [HNB.out];have HB2:=hid (HBW.out.trans (hb2.mono HBW.out.size));have d2:w2.drew.cell? ⟨b,off+k,none⟩=some (.string ⟨x.toArray⟩):=(hb2.cell (p:=⟨b,off+k,none⟩) (Nat.lt_of_lt_of_le HRB.out HBW.out.size)).trans d0;clear hb2 d0)
    have hS:(fun W=>W.cell? ⟨b,off+k,none⟩=some (.string ⟨x.toArray⟩)) w2.drew:=d2
    have HCW:=hid (show SlG kStr R w2.drew (.slice (some ⟨b,off,none⟩) k c) (l.take k) from HCU.keep fun j hj=>⟨hj,HB2.block j (HB.out j hj)⟩)
    have HKC:=hid hk
    obtain ⟨cc,hcc⟩:∃ cc,(l.take k).contains x=cc:=⟨_,rfl⟩
    have HCC:=hid hcc
    clear hcc d2
    have hkc:k<=c:=by have h1:=HS.cap;omega
    have hFa:=fT
    refine rgN (fun W=>W.cell? ⟨b,off+k,none⟩=some (.string ⟨x.toArray⟩)) 7 (by kernel_rfl) ?_
    simp only [zP,Nat.reduceAdd]
    iterate 6 (refine npW (v:=?_) 8 (.inr hS) ?_ ?_;rotate_left;(focus intro w' _;go_simp;try rfl);simp only [aP])
    refine wpHJ_take (v:=?v3) 6 hFa rfl (by kernel_rfl) nE (Or.inl ⟨by rfl,?y3⟩) hS ?r3
    case y3=>(rintro w' s0;go_simp;try rfl)
    simp only [aP]
    refine oy 7 fun K hK=>?_
    go_simp
    (refine (callsIn_wide.2 (ris_any (l.take k) x _ _ _ HCW.out)).mono ?_)
    rintro e w3 ⟨rfl,rfl⟩
    rw [HCC.out]
    refine hK _ _ (.inl rfl) (dN ?_)
    clear hK K
    simp only [onlyN,Exit.then]
    clear hFa
    clear hS
    cases cc with
    | true =>
     have HRF:=hid (show r=8 from HD1.out ((0,0),8) (by rw [<- HC2.out,if_pos HCC.out]))
     go_wp2_with fail
     go_ret
     have h9:=HRF.out
     subst h9
     exact ⟨rfl,HB2.trans (Below.refl _ _).drew⟩
    | false =>
     have HNX:=hid (show declM (0,0) (l.take (k+1)) (l.drop (k+1))=declM (0,0) [] l from by rw [HTK.out,<- HC2.out,if_neg (by rw [HCC.out];decide)])
     go_wp2_with fail
     go_roundw
     case rel=>exact ⟨k+1,HLT.out,by first | (rw [wrap_next HLT.out HS.len]) | rfl,HNX.out,HB2.trans (Below.refl _ _).drew⟩
     case measure=>first | exact meas_next HLT.out HS.len | (have h1:=HLT.out;simp [intOf];omega)
  ·obtain rfl:k=l.length:=by omega
   have HRF:=hid (show r=0 from by exact HD0.out (by rw [<- hc,List.drop_length];rfl))
   clear hlt hc hb
   go_wp2_with fail
   go_ret
   have h9:=HRF.out
   subst h9
   exact ⟨rfl,HBW.out⟩
def bodyAt (p:Pg) (i:Nat):List In:=if h:i<p.funcs.length then (p.funcs[i]).code else p.main
theorem rbodyat_any (p:Pg) (a b c d:Value) (i:Nat) (R:Nat->Prop) (w:World) (hp:PgV R w a b c d p) (hRR:∀ k,R k->k<w.heap.size) :
  Calls Tryz.prog 134 #[.agg #[.int .i64 p.width,a,b,c,d],.int .i64 (i:Int)] w fun e w'=>∃ v,e=.returned v/\SlG kIn R w' v (bodyAt p i)/\Below w.heap.size w w':=by
 obtain ⟨pa,ca,hva⟩:=hp.1.slc
 obtain ⟨pb,cb,hvb⟩:=hp.2.1.slc
 obtain ⟨pc,cc,hvc⟩:=hp.2.2.1.slc
 obtain ⟨pd,cd,hvd⟩:=hp.2.2.2.slc
 subst hva hvb hvc hvd
 have HP:=hid hp
 clear hp
 obtain ⟨wo,hwo⟩:∃ W,w.alloc (.cells #[.int .i64 p.width,.slice pa p.chans.length ca,.slice pb p.arrays.length cb,.slice pc p.funcs.length cc,.slice pd p.main.length cd] 27)=W:=⟨_,rfl⟩
 have HWO:=hid hwo
 have HX:=hid (show BxL 27 w.heap.size [.int .i64 p.width,.slice pa p.chans.length ca,.slice pb p.arrays.length cb,.slice pc p.funcs.length cc,.slice pd p.main.length cd] wo from by rw [<- hwo];exact BxL.new _ _ _)
 have HB:=hid (show Below w.heap.size w wo from by rw [<- hwo];exact bA)
 have HG:=hid (show PgV R wo (.slice pa p.chans.length ca) (.slice pb p.arrays.length cb) (.slice pc p.funcs.length cc) (.slice pd p.main.length cd) p from HP.keep fun k hk=>⟨hk,HB.block k (hRR k hk)⟩)
 clear hwo
 by_cases hi:i<p.funcs.length
 ·have hd:decide ((i:Int)<(p.funcs.length:Int))=true:=by simp;omega
  obtain ⟨b,off,rfl,hR,hcells⟩:=fu_at HG.2.2.1 (by omega:0<p.funcs.length)
  obtain ⟨pp,cp,pq,cq,hpar,hcode,q0,q1,q2,q3,q4⟩:=hcells i hi
  have HCO:=hid hcode
  have n3:wo.cell? ⟨w.heap.size,3,none⟩=some (.slice (some ⟨b,off,none⟩) p.funcs.length cc):=HX.at 3 rfl
  obtain ⟨nC,hnC⟩:∃ n,(p.funcs[i]).code.length=n:=⟨_,rfl⟩
  rw [hnC] at q2
  have HNC:=hid hnC
  have HI:=hid hi
  clear hpar hcode hcells hR hnC q0 q1 q3 q4
  go_enter Tryz.func134,Tryz.ntmps134
  go_upto_region 1 with fail
  rw [HWO.out]
  go_wp2_with fail
  go_ret
  refine ⟨_,rfl,?_,HB.out⟩
  have h9:=HCO.out
  rw [HNC.out] at h9
  unfold bodyAt
  rw [dif_pos HI.out]
  exact h9
 ·have hd:decide ((i:Int)<(p.funcs.length:Int))=false:=by simp;omega
  have n3:wo.cell? ⟨w.heap.size,3,none⟩=some (.slice pc p.funcs.length cc):=HX.at 3 rfl
  have n4:wo.cell? ⟨w.heap.size,4,none⟩=some (.slice pd p.main.length cd):=HX.at 4 rfl
  have HI:=hid hi
  go_enter Tryz.func134,Tryz.ntmps134
  go_upto_region 1 with fail
  rw [HWO.out]
  go_wp2_with fail
  go_ret
  refine ⟨_,rfl,?_,HB.out⟩
  unfold bodyAt
  rw [dif_neg HI.out]
  exact HG.2.2.2
theorem find_step (l:List Fu) (s:Bs) (k:Nat) (hk:k<l.length) (h:(l.take k).findIdx? (fun f=>decide (f.nm=s))=none) :
  ((l[k]).nm=s->l.findIdx? (fun f=>decide (f.nm=s))=some k)/\((l[k]).nm ≠ s->(l.take (k+1)).findIdx? (fun f=>decide (f.nm=s))=none):=by
 refine ⟨fun e=>?_,fun e=>?_⟩
 ·rw [List.findIdx?_eq_some_iff_getElem]
  refine ⟨hk,by simpa using e,fun j hj=>?_⟩
  rw [List.findIdx?_eq_none_iff] at h
  have:=h l[j] (by rw [List.mem_take_iff_getElem];exact ⟨j,by omega,rfl⟩)
  simpa using this
 ·rw [List.take_succ_eq_append_getElem hk,List.findIdx?_eq_none_iff]
  rw [List.findIdx?_eq_none_iff] at h
  intro x hx
  rcases List.mem_append.1 hx with hx | hx
  ·exact h x hx
  ·rw [List.mem_singleton.1 hx];simpa using e
theorem rfind_any (p:Pg) (a b c d:Value) (s:Bs) (w:World) (hp:PgV (·<w.heap.size) w a b c d p) :
  Calls Tryz.prog 173 #[.agg #[.int .i64 p.width,a,b,c,d],.string ⟨s.toArray⟩] w fun e w'=>e=.returned (.int .i64 (match findM p s with | some k=>(k:Int) | none => -1))/\Below w.heap.size w w':=by
 obtain ⟨pa,ca,hva⟩:=hp.1.slc
 obtain ⟨pb,cb,hvb⟩:=hp.2.1.slc
 obtain ⟨pc,cc,hvc⟩:=hp.2.2.1.slc
 obtain ⟨pd,cd,hvd⟩:=hp.2.2.2.slc
 subst hva hvb hvc hvd
 have HP:=hid hp
 clear hp
 obtain ⟨wo,hwo⟩:∃ W,w.alloc (.cells #[.int .i64 p.width,.slice pa p.chans.length ca,.slice pb p.arrays.length cb,.slice pc p.funcs.length cc,.slice pd p.main.length cd] 27)=W:=⟨_,rfl⟩
 have HWO:=hid hwo
 have HX:=hid (show BxL 27 w.heap.size [.int .i64 p.width,.slice pa p.chans.length ca,.slice pb p.arrays.length cb,.slice pc p.funcs.length cc,.slice pd p.main.length cd] wo from by rw [<- hwo];exact BxL.new _ _ _)
 have HB:=hid (show Below w.heap.size w wo from by rw [<- hwo];exact bA)
 have HG:=hid (show PgV (·<wo.heap.size) wo (.slice pa p.chans.length ca) (.slice pb p.arrays.length cb) (.slice pc p.funcs.length cc) (.slice pd p.main.length cd) p from HP.below HB.out)
 clear hwo
 obtain ⟨r,hr⟩:∃ r:Int,(match findM p s with | some k=>(k:Int) | none => -1)=r:=⟨_,rfl⟩
 have HR0:=hid (show findM p s=none->r = -1 from fun e=>by rw [<- hr,e])
 have HR1:=hid (show ∀ k,findM p s=some k->r=(k:Int) from fun k e=>by rw [<- hr,e])
 rw [hr]
 clear hr
 have n3:wo.cell? ⟨w.heap.size,3,none⟩=some (.slice pc p.funcs.length cc):=HX.at 3 rfl
 go_enter Tryz.func173,Tryz.ntmps173
 go_upto_region 1 with fail
 rw [HWO.out]
 go_wp2_with fail
 go_loopw [5] (fun iv wr=>∃ k:Nat,k<=p.funcs.length/\iv=.int .i64 (k:Int)/\(p.funcs.take k).findIdx? (fun f=>decide (f.nm=s))=none/\wo=wr) (fun iv _=>p.funcs.length - (intOf iv).toNat)
 case atStart=>exact ⟨0,Nat.zero_le _,rfl,by simp,by first | rfl | trivial⟩
 case round =>
  obtain ⟨k,hk,rfl,hc,rfl⟩:=hrel
  have HC:=hid hc
  clear hc
  by_cases hlt:k<p.funcs.length
  ·have HFS:=hid (find_step p.funcs s k hlt HC.out)
   obtain ⟨b,off,rfl,hRb,hcells⟩:=fu_at HG.2.2.1 (by omega:0<p.funcs.length)
   obtain ⟨pp,cp,pq,cq,hpar,hcode,q0,q1,q2,q3,q4⟩:=hcells k hlt
   have HLT:=hid hlt
   clear hpar hcode hcells hRb q1 q2 q3 q4
   generalize (p.funcs[k]).nm=x at *
   by_cases hx:x=s
   ·subst hx
    have HRU:=hid (HR1.out k (HFS.1 rfl))
    clear HFS
    go_wp2_with fail
    go_ret
    have h9:=HRU.out
    subst h9
    exact ⟨rfl,HB.out⟩
   ·have HNY:=hid (HFS.2 hx)
    have hwd:=str_neF hx
    clear HFS hx
    go_wp2_with fail
    go_roundw
    case rel=>exact ⟨k+1,HLT.out,by first | (rw [wrap_next HLT.out HG.2.2.1.len]) | rfl,HNY.out,by first | rfl | trivial⟩
    case measure=>first | exact meas_next HLT.out HG.2.2.1.len | (have h1:=HLT.out;simp [intOf];omega)
  ·obtain rfl:k=p.funcs.length:=by omega
   have HRF:=hid (HR0.out (by have h:=HC.out;rwa [List.take_length] at h))
   clear hlt
   go_wp2_with fail
   go_ret
   have h9:=HRF.out
   subst h9
   exact ⟨rfl,HB.out⟩
theorem rarrnames_any (p:Pg) (a b c d:Value) (w:World) (hp:PgV (·<w.heap.size) w a b c d p) (hl:p.arrays.length<=1000000000000) :
  Calls Tryz.prog 91 #[.agg #[.int .i64 p.width,a,b,c,d]] w fun e w'=>∃ v',e=.returned v'/\GF kStr w.heap.size 9 w' v' (p.arrays.map Ar.nm)/\Below w.heap.size w w':=by
 obtain ⟨pa,ca,hva⟩:=hp.1.slc
 obtain ⟨pb,cb,hvb⟩:=hp.2.1.slc
 obtain ⟨pc,cc,hvc⟩:=hp.2.2.1.slc
 obtain ⟨pd,cd,hvd⟩:=hp.2.2.2.slc
 subst hva hvb hvc hvd
 have HP:=hid hp
 have HL:=hid hl
 clear hp hl
 obtain ⟨wo,hwo⟩:∃ W,w.alloc (.cells #[.int .i64 p.width,.slice pa p.chans.length ca,.slice pb p.arrays.length cb,.slice pc p.funcs.length cc,.slice pd p.main.length cd] 27)=W:=⟨_,rfl⟩
 have HWO:=hid hwo
 have HX:=hid (show BxL 27 w.heap.size [.int .i64 p.width,.slice pa p.chans.length ca,.slice pb p.arrays.length cb,.slice pc p.funcs.length cc,.slice pd p.main.length cd] wo from by rw [<- hwo];exact BxL.new _ _ _)
 have HB:=hid (show Below w.heap.size w wo from by rw [<- hwo];exact bA)
 have HG:=hid (show PgV (·<wo.heap.size) wo (.slice pa p.chans.length ca) (.slice pb p.arrays.length cb) (.slice pc p.funcs.length cc) (.slice pd p.main.length cd) p from HP.below HB.out)
 clear hwo
 have n2:wo.cell? ⟨w.heap.size,2,none⟩=some (.slice pb p.arrays.length cb):=HX.at 2 rfl
 go_enter Tryz.func91,Tryz.ntmps91
 go_upto_region 1 with fail
 rw [HWO.out]
 go_wp2_with fail
 clear n2
 go_loopw [3,4] (fun ov iv wr=>∃ k:Nat,k<=p.arrays.length/\iv=.int .i64 (k:Int)/\GA kStr wo.heap.size 9 wr ov ((p.arrays.take k).map Ar.nm)/\Below wo.heap.size wo wr) (fun _ iv _=>p.arrays.length - (intOf iv).toNat)
 case atStart=>exact ⟨0,Nat.zero_le _,rfl,GA.nil _ _ _ _,Below.refl _ _⟩
 case round =>
  obtain ⟨k,hk,rfl,hga,hbr⟩:=hrel
  obtain ⟨T,hT⟩:∃ T,(p.arrays.take k).map Ar.nm=T:=⟨_,rfl⟩
  rw [hT] at hga
  have HTD:=hid hT
  clear hT
  obtain ⟨po,co,rfl⟩:=hga.slc
  have n2:wr.cell? ⟨w.heap.size,2,none⟩=some (.slice pb p.arrays.length cb):=(HX.bel hbr).at 2 rfl
  by_cases hlt:k<p.arrays.length
  ·obtain ⟨b,off,rfl,hR,hcells⟩:=ar_at HG.2.1 (by omega:0<p.arrays.length)
   obtain ⟨c0,c1⟩:=hcells k hlt
   have d0:=(hbr.cell (p:=⟨b,off+k*2,none⟩) hR).trans c0
   have HSN:=hid (show (p.arrays.take (k+1)).map Ar.nm=T++[(p.arrays[k]).nm] from by rw [List.take_succ_eq_append_getElem hlt,List.map_append,HTD.out];rfl)
   have HCL:=hid (show T.length+1<=1000000000000 from by rw [<- HTD.out,List.length_map,List.length_take];have:=HL.out;omega)
   have HLT:=hid hlt;have HBO:=hid hbr;have HGO:=hid hga
   clear hcells hR hbr hga HTD c0 c1
   generalize (p.arrays[k]).nm=x at *
   clear hlt
   go_wp2_with (at_builtin;refine wpList_push (K:=kStr) (x:=x) (cs:=[.string ⟨x.toArray⟩]) (te:=9) rfl _ _ 22 rfl Tryz.underlying22 _ 16 info_strG rfl HGO.out rfl rfl rfl (by have:=HCL.out;omega) (by have:=HCL.out;unfold maxLen;omega) HBO.out.size ?_;intro v5 w5 hg5 hgr5 hm5;have HG5:=hid hg5;have HB5:=hid (below_push HGO.out HBO.out hgr5 HBO.out.size);clear hg5 hgr5 hm5)
   go_roundw
   case rel=>exact ⟨k+1,HLT.out,by rw [wrap_next HLT.out HG.2.1.len],by rw [HSN.out];exact HG5.out,HB5.out⟩
   case measure=>exact meas_next HLT.out HG.2.1.len
  ·obtain rfl:k=p.arrays.length:=by omega
   have HBR:=hid hbr;have HGA:=hid hga
   clear hlt hbr hga
   go_wp2_with fail
   go_ret
   have hga:=HGA.out
   have hT:=HTD.out
   rw [List.take_length] at hT
   subst hT
   refine ⟨_,rfl,?_,HB.trans (HBR.mono HB.size)⟩
   first | exact (GF.base hga.gfS HB.size) | exact hga.gfS.base HB.size
theorem eqstrs_sameK (l:List Bs) (va vb:Value) (R R':Nat->Prop) (w:World) (ha:SlG kStr R w va l) (hb:SlG kStr R' w vb l) :
  Calls Tryz.prog 55 #[va,vb] w fun e w'=>e=.returned (.bool true)/\∃ n,w.drewN n=w':=by
 obtain ⟨pa,ca,rfl⟩:=ha.slc
 obtain ⟨pb,cb,rfl⟩:=hb.slc
 have HA:=hid ha;have HB:=hid hb
 clear ha hb
 go_enter Tryz.func55,Tryz.ntmps55
 go_wp2
 go_loopw [4,5] (fun rv iv wr=>∃ (k n:Nat),k<=l.length/\rv=.bool false/\iv=.int .i64 k/\wr=w.drewN n) (fun _ iv _=>l.length - (intOf iv).toNat)
 case atStart=>exact ⟨0,0,Nat.zero_le _,rfl,rfl,rfl⟩
 case round =>
  obtain ⟨k,n,hk,rfl,rfl,rfl⟩:=hrel
  by_cases hlt:k<l.length
  ·obtain ⟨b1,o1,rfl,hR1,hc1⟩:=str_at HA.out (by omega:0<l.length)
   obtain ⟨b2,o2,rfl,hR2,hc2⟩:=str_at HB.out (by omega:0<l.length)
   have c0:=hc1 k hlt
   have d0:=hc2 k hlt
   have HLT:=hid hlt
   clear hc1 hc2
   generalize l[k]=x at *
   clear hlt
   have hlt:=HLT.out
   go_wp2_with fail
   go_quiet (fail)
   go_wp2
   go_roundw
   case rel=>exact ⟨k+1,n+nq,HLT.out,by first | rfl | trivial,by rw [wrap_next HLT.out HA.len],by first | rfl | rw [World.drewN_drewN]⟩
   case measure=>exact meas_next HLT.out HA.len
  ·obtain rfl:k=l.length:=by omega
   clear hlt
   go_wp2
   go_ret
   exact ⟨rfl,n,rfl⟩
theorem eqarrs_sameK (l:List Ar) (va vb:Value) (R R':Nat->Prop) (w:World) (ha:SlG kAr R w va l) (hb:SlG kAr R' w vb l) :
  Calls Tryz.prog 56 #[va,vb] w fun e w'=>e=.returned (.bool true)/\∃ n,w.drewN n=w':=by
 obtain ⟨pa,ca,rfl⟩:=ha.slc
 obtain ⟨pb,cb,rfl⟩:=hb.slc
 have HA:=hid ha;have HB:=hid hb
 clear ha hb
 go_enter Tryz.func56,Tryz.ntmps56
 go_wp2
 go_loopw [4,5] (fun rv iv wr=>∃ (k n:Nat),k<=l.length/\rv=.bool false/\iv=.int .i64 k/\wr=w.drewN n) (fun _ iv _=>l.length - (intOf iv).toNat)
 case atStart=>exact ⟨0,0,Nat.zero_le _,rfl,rfl,rfl⟩
 case round =>
  obtain ⟨k,n,hk,rfl,rfl,rfl⟩:=hrel
  by_cases hlt:k<l.length
  ·obtain ⟨b1,o1,rfl,hR1,hc1⟩:=ar_at HA.out (by omega:0<l.length)
   obtain ⟨b2,o2,rfl,hR2,hc2⟩:=ar_at HB.out (by omega:0<l.length)
   obtain ⟨c0,c1⟩:=hc1 k hlt
   obtain ⟨d0,d1⟩:=hc2 k hlt
   have HLT:=hid hlt
   clear hc1 hc2
   generalize l[k]=x at *
   clear hlt
   have hlt:=HLT.out
   go_wp2_with fail
   go_quiet (fail)
   go_wp2
   go_roundw
   case rel=>exact ⟨k+1,n+nq,HLT.out,by first | rfl | trivial,by rw [wrap_next HLT.out HA.len],by first | rfl | rw [World.drewN_drewN]⟩
   case measure=>exact meas_next HLT.out HA.len
  ·obtain rfl:k=l.length:=by omega
   clear hlt
   go_wp2
   go_ret
   exact ⟨rfl,n,rfl⟩
theorem eqinstrs_same (l:List In) (va vb:Value) (w:World) (ha:SlG kIn (·<w.heap.size) w va l) (hb:SlG kIn (·<w.heap.size) w vb l) :
  Calls Tryz.prog 58 #[va,vb] w fun e w'=>e=.returned (.bool true)/\Below w.heap.size w w':=by
 obtain ⟨pa,ca,rfl⟩:=ha.slc
 obtain ⟨pb,cb,rfl⟩:=hb.slc
 have HA:=hid ha;have HB:=hid hb
 clear ha hb
 go_enter Tryz.func58,Tryz.ntmps58
 go_wp2
 go_loopw [4,5] (fun rv iv wr=>∃ k:Nat,k<=l.length/\rv=.bool false/\iv=.int .i64 k/\Below w.heap.size w wr) (fun _ iv _=>l.length - (intOf iv).toNat)
 case atStart=>exact ⟨0,Nat.zero_le _,rfl,rfl,Below.refl _ _⟩
 case round =>
  obtain ⟨k,hk,rfl,rfl,hbr⟩:=hrel
  by_cases hlt:k<l.length
  ·obtain ⟨b1,o1,rfl,hR1,hc1⟩:=in_at HA.out (by omega:0<l.length)
   obtain ⟨b2,o2,rfl,hR2,hc2⟩:=in_at HB.out (by omega:0<l.length)
   obtain ⟨p1,cp1,ha1,e0,e1,e2,e3,e4,e5,e6⟩:=hc1 k hlt
   obtain ⟨p2,cp2,ha2,g0,g1,g2,g3,g4,g5,g6⟩:=hc2 k hlt
   have HBW:=hid (show Below w.heap.size w wr.drew from hbr.trans (Below.refl _ _).drew)
   have q0:wr.drew.cell? ⟨b1,o1+k*7,none⟩=some _:=(HBW.cell (p:=⟨b1,o1+k*7,none⟩) hR1).trans e0
   have q1:wr.drew.cell? ⟨b1,o1+k*7+1,none⟩=some _:=(HBW.cell (p:=⟨b1,o1+k*7+1,none⟩) hR1).trans e1
   have q2:wr.drew.cell? ⟨b1,o1+k*7+2,none⟩=some _:=(HBW.cell (p:=⟨b1,o1+k*7+2,none⟩) hR1).trans e2
   have q3:wr.drew.cell? ⟨b1,o1+k*7+3,none⟩=some _:=(HBW.cell (p:=⟨b1,o1+k*7+3,none⟩) hR1).trans e3
   have q4:wr.drew.cell? ⟨b1,o1+k*7+4,none⟩=some _:=(HBW.cell (p:=⟨b1,o1+k*7+4,none⟩) hR1).trans e4
   have q5:wr.drew.cell? ⟨b1,o1+k*7+5,none⟩=some _:=(HBW.cell (p:=⟨b1,o1+k*7+5,none⟩) hR1).trans e5
   have q6:wr.drew.cell? ⟨b1,o1+k*7+6,none⟩=some _:=(HBW.cell (p:=⟨b1,o1+k*7+6,none⟩) hR1).trans e6
   have t0:wr.drew.cell? ⟨b2,o2+k*7,none⟩=some _:=(HBW.cell (p:=⟨b2,o2+k*7,none⟩) hR2).trans g0
   have t1:wr.drew.cell? ⟨b2,o2+k*7+1,none⟩=some _:=(HBW.cell (p:=⟨b2,o2+k*7+1,none⟩) hR2).trans g1
   have t2:wr.drew.cell? ⟨b2,o2+k*7+2,none⟩=some _:=(HBW.cell (p:=⟨b2,o2+k*7+2,none⟩) hR2).trans g2
   have t3:wr.drew.cell? ⟨b2,o2+k*7+3,none⟩=some _:=(HBW.cell (p:=⟨b2,o2+k*7+3,none⟩) hR2).trans g3
   have t4:wr.drew.cell? ⟨b2,o2+k*7+4,none⟩=some _:=(HBW.cell (p:=⟨b2,o2+k*7+4,none⟩) hR2).trans g4
   have t5:wr.drew.cell? ⟨b2,o2+k*7+5,none⟩=some _:=(HBW.cell (p:=⟨b2,o2+k*7+5,none⟩) hR2).trans g5
   have t6:wr.drew.cell? ⟨b2,o2+k*7+6,none⟩=some _:=(HBW.cell (p:=⟨b2,o2+k*7+6,none⟩) hR2).trans g6
   have HA1:=hid (ha1.below HBW.out);have HA2:=hid (ha2.below HBW.out)
   have HLT:=hid hlt
   clear hc1 hc2 ha1 ha2 hR1 hR2 hbr e0 g0 e1 g1 e2 g2 e3 g3 e4 g4 e5 g5 e6 g6
   generalize l[k]=x at *
   clear hlt
   have hlt:=HLT.out
   go_upto_region 6 with fail
   have hS:(fun W=>W.cell? ⟨b1,o1+k*7,none⟩=some (.int .u8 (x.kind:Int))/\W.cell? ⟨b1,o1+k*7+1,none⟩=some (.int .u8 (x.op:Int))/\W.cell? ⟨b1,o1+k*7+2,none⟩=some (.string ⟨x.dst.toArray⟩)/\W.cell? ⟨b1,o1+k*7+3,none⟩=some (.string ⟨x.nm.toArray⟩)/\W.cell? ⟨b1,o1+k*7+4,none⟩=some (.slice p1 x.args.length cp1)/\W.cell? ⟨b1,o1+k*7+5,none⟩=some (.int .i64 x.pos.1)/\W.cell? ⟨b1,o1+k*7+6,none⟩=some (.int .i64 x.pos.2)/\W.cell? ⟨b2,o2+k*7,none⟩=some (.int .u8 (x.kind:Int))/\W.cell? ⟨b2,o2+k*7+1,none⟩=some (.int .u8 (x.op:Int))/\W.cell? ⟨b2,o2+k*7+2,none⟩=some (.string ⟨x.dst.toArray⟩)/\W.cell? ⟨b2,o2+k*7+3,none⟩=some (.string ⟨x.nm.toArray⟩)/\W.cell? ⟨b2,o2+k*7+4,none⟩=some (.slice p2 x.args.length cp2)/\W.cell? ⟨b2,o2+k*7+5,none⟩=some (.int .i64 x.pos.1)/\W.cell? ⟨b2,o2+k*7+6,none⟩=some (.int .i64 x.pos.2)) wr.drew:=⟨q0,q1,q2,q3,q4,q5,q6,t0,t1,t2,t3,t4,t5,t6⟩
   clear q0 t0 q1 t1 q2 t2 q3 t3 q4 t4 q5 t5 q6 t6
   have hFa:=fT
   refine rgN (fun W=>W.cell? ⟨b1,o1+k*7,none⟩=some (.int .u8 (x.kind:Int))/\W.cell? ⟨b1,o1+k*7+1,none⟩=some (.int .u8 (x.op:Int))/\W.cell? ⟨b1,o1+k*7+2,none⟩=some (.string ⟨x.dst.toArray⟩)/\W.cell? ⟨b1,o1+k*7+3,none⟩=some (.string ⟨x.nm.toArray⟩)/\W.cell? ⟨b1,o1+k*7+4,none⟩=some (.slice p1 x.args.length cp1)/\W.cell? ⟨b1,o1+k*7+5,none⟩=some (.int .i64 x.pos.1)/\W.cell? ⟨b1,o1+k*7+6,none⟩=some (.int .i64 x.pos.2)/\W.cell? ⟨b2,o2+k*7,none⟩=some (.int .u8 (x.kind:Int))/\W.cell? ⟨b2,o2+k*7+1,none⟩=some (.int .u8 (x.op:Int))/\W.cell? ⟨b2,o2+k*7+2,none⟩=some (.string ⟨x.dst.toArray⟩)/\W.cell? ⟨b2,o2+k*7+3,none⟩=some (.string ⟨x.nm.toArray⟩)/\W.cell? ⟨b2,o2+k*7+4,none⟩=some (.slice p2 x.args.length cp2)/\W.cell? ⟨b2,o2+k*7+5,none⟩=some (.int .i64 x.pos.1)/\W.cell? ⟨b2,o2+k*7+6,none⟩=some (.int .i64 x.pos.2)) 8 (by kernel_rfl) ?_
   simp only [zP,Nat.reduceAdd]
   iterate 3 (refine npW (v:=?_) 10 (.inr hS) ?_ ?_;rotate_left;(focus intro w' _;go_simp;try rfl);simp only [aP])
   refine wpHJ_take (v:=?v0) 3 hFa rfl (by kernel_rfl) nE (Or.inl ⟨by rfl,?y0⟩) hS ?r0
   case y0=>(rintro w' ⟨s0,s1,s2,s3,s4,s5,s6,s7,s8,s9,s10,s11,s12,s13⟩;go_simp;try rfl)
   simp only [aP]
   iterate 3 (refine npW (v:=?_) 10 (.inr hS) ?_ ?_;rotate_left;(focus intro w' _;go_simp;try rfl);simp only [aP])
   refine wpHJ_take (v:=?v1) 7 hFa rfl (by kernel_rfl) nE (Or.inl ⟨by rfl,?y1⟩) hS ?r1
   case y1=>(rintro w' ⟨s0,s1,s2,s3,s4,s5,s6,s7,s8,s9,s10,s11,s12,s13⟩;go_simp;try rfl)
   simp only [aP]
   refine oy 8 fun K hK=>?_
   go_simp
   (refine (callsIn_wide.2 (eqinstr_same x _ _ _ HA1.out HA2.out)).mono ?_)
   rintro e w5 ⟨rfl,hb⟩
   have HB5:=hid (HBW.trans (hb.mono HBW.size))
   clear hb
   refine hK _ _ (.inl rfl) ?_
   clear hK K
   refine wpHJ_pure (v:=?v2) 9 hFa rfl (by kernel_rfl) nE (Or.inl ⟨by rfl,?y2⟩) (.inl rfl) ?r2
   case y2=>(intro w' _;go_simp;try rfl)
   simp only [aP]
   refine wpHJ_done (by kernel_rfl) ?_ _
   simp only [onlyN,Exit.then]
   clear hFa
   clear hS
   go_wp2_with fail
   go_roundw
   case rel=>exact ⟨k+1,HLT.out,by first | rfl | trivial,by first | (rw [wrap_next HLT.out HA.len]) | rfl,HB5.out⟩
   case measure=>first | exact meas_next HLT.out HA.len | (have h1:=HLT.out;simp [intOf];omega)
  ·obtain rfl:k=l.length:=by omega
   clear hlt
   have HBR:=hid hbr
   clear hbr
   go_wp2
   go_ret
   exact ⟨rfl,HBR.out⟩
end Go.Proofs.YtoofbgoeipijcaaGreatDoor
