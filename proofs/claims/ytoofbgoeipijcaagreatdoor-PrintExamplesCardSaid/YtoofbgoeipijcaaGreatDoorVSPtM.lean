/-
 A part.
-/
import Derived.Test.YtoofbgoeipijcaaGreatDoorVSPtJ
import Derived.Test.YtoofbgoeipijcaaGreatDoorVB35
namespace Go.Proofs.YtoofbgoeipijcaaGreatDoor
set_option linter.all false
open Go.RowKit Go.Shelf
attribute [local go_sem] Oper.semAt_some
def laterAll (p:Pg):Flt :=
 match rlaterM p p.funcs with
 | some f=>f
 | none=>match rtargetsM p p.main p.main with
  | some f=>f
  | none=>match rloopsM p 0 p.funcs with
   | some f=>f
   | none=>((0,0),0)
def rtAt (p:Pg) (i:Nat):Option Flt:=rtargetsM p (bodyAt p i) (bodyAt p i)
theorem rlater_none (p:Pg):∀ (l:List Fu),rlaterM p l=none ↔ ∀ f ∈ l,rtargetsM p f.code f.code=none
 | []=>by simp [rlaterM]
 | f :: r=>by
  unfold rlaterM
  cases h:rtargetsM p f.code f.code with
  | some x=>simp [h]
  | none=>simp only [List.mem_cons,forall_eq_or_imp,h,true_and];exact rlater_none p r
theorem rlater_first (p:Pg):∀ (l:List Fu) (i:Nat) (hi:i<l.length) (f:Flt),(∀ j (h:j<i),rtargetsM p (l[j]'(Nat.lt_trans h hi)).code (l[j]'(Nat.lt_trans h hi)).code=none)->rtargetsM p l[i].code l[i].code=some f->rlaterM p l=some f
 | [],i,hi,_,_,_=>absurd hi (by simp)
 | g :: r,0,hi,f,_,h=>by unfold rlaterM;simp only [List.getElem_cons_zero] at h;rw [h]
 | g :: r,i+1,hi,f,hj,h=>by
  have h0:=hj 0 (by omega)
  simp only [List.getElem_cons_zero] at h0
  unfold rlaterM
  rw [h0]
  refine rlater_first p r i (by simpa using hi) f (fun j hlt=>?_) (by simpa using h)
  have:=hj (j+1) (by omega)
  simpa using this
theorem rtAt_lt (p:Pg) (i:Nat) (h:i<p.funcs.length):rtAt p i=rtargetsM p (p.funcs[i]).code (p.funcs[i]).code:=by unfold rtAt bodyAt;rw [dif_pos h]
theorem rtAt_main (p:Pg):rtAt p p.funcs.length=rtargetsM p p.main p.main:=by unfold rtAt bodyAt;rw [dif_neg (by omega)]
theorem later_fault (p:Pg) (i:Nat) (hi:i<=p.funcs.length) (f:Flt) (h:∀ j,j<i->rtAt p j=none) (hf:rtAt p i=some f):laterAll p=f:=by
 unfold laterAll
 by_cases e:i<p.funcs.length
 ·rw [rlater_first p p.funcs i e f (fun j hj=>by rw [<- rtAt_lt p j (by omega)];exact h j hj) (by rw [<- rtAt_lt p i e];exact hf)]
 ·obtain rfl:i=p.funcs.length:=by omega
  have h1:rlaterM p p.funcs=none:=(rlater_none p p.funcs).2 fun g hg=>by
   obtain ⟨j,hj,rfl⟩:=List.mem_iff_getElem.1 hg
   rw [<- rtAt_lt p j hj];exact h j hj
  rw [h1,<- rtAt_main,hf]
theorem later_on (p:Pg) (h:∀ j,j<p.funcs.length+1->rtAt p j=none):rlaterM p p.funcs=none/\laterAll p=(rloopsM p 0 p.funcs).getD ((0,0),0):=by
 have h1:rlaterM p p.funcs=none:=(rlater_none p p.funcs).2 fun g hg=>by
  obtain ⟨j,hj,rfl⟩:=List.mem_iff_getElem.1 hg
  rw [<- rtAt_lt p j hj];exact h j (by omega)
 refine ⟨h1,?_⟩
 unfold laterAll
 rw [h1,<- rtAt_main,h _ (by omega)]
 cases rloopsM p 0 p.funcs <;> rfl
theorem rt_code (p:Pg) (code:List In):∀ (l:List In) (f:Flt),rtargetsM p code l=some f->f.2 ≠ 0
 | [],f,h=>by cases h
 | x :: r,f,h=>by
  unfold rtargetsM at h
  cases e:rtargetM p code x with
  | none=>rw [e] at h;exact rt_code p code r f h
  | some g =>
   rw [e] at h
   cases h
   unfold rtargetM at e
   split at e
   ·cases e;simp
   ·split at e
    ·split at e
     ·cases e;simp
     ·split at e
      ·cases e
      ·cases e;simp
    ·cases e
theorem rloops_cons (p:Pg) (i:Nat) (hi:i<p.funcs.length):rloopsM p i (p.funcs.drop i)=if rloopB p i then some ((p.funcs[i]).pos,9) else rloopsM p (i+1) (p.funcs.drop (i+1)):=by
 rw [List.drop_eq_getElem_cons hi];rfl
set_option maxRecDepth 100000 in
set_option maxHeartbeats 16000000 in
theorem rlater_any (p:Pg) (a b c d:Value) (w:World) (hp:PgV (·<w.heap.size) w a b c d p) (hl:RLen p) :
  Calls Tryz.prog 93 #[.agg #[.int .i64 p.width,a,b,c,d]] w fun e w'=>e=.returned (.tuple #[posV (laterAll p).1,.int .i64 (laterAll p).2])/\Below w.heap.size w w':=by
 obtain ⟨pa,ca,hva⟩:=hp.1.slc
 obtain ⟨pb,cb,hvb⟩:=hp.2.1.slc
 obtain ⟨pc,cc,hvc⟩:=hp.2.2.1.slc
 obtain ⟨pd,cd,hvd⟩:=hp.2.2.2.slc
 subst hva hvb hvc hvd
 have HP:=hid hp
 obtain ⟨r,hr⟩:∃ r,laterAll p=r:=⟨_,rfl⟩
 rw [hr]
 have HR:=hid hr;have HL:=hid hl;have HFN:=hid hl.funcs
 clear hp hl hr
 obtain ⟨wo,hwo⟩:∃ W,(w.alloc (.cells #[.int .i64 p.width,.slice pa p.chans.length ca,.slice pb p.arrays.length cb,.slice pc p.funcs.length cc,.slice pd p.main.length cd] 27)).alloc (.cells #[.int .i64 0,.int .i64 0] 39)=W:=⟨_,rfl⟩
 have HWO:=hid hwo
 have HXo:=hid (show BxL 27 w.heap.size [.int .i64 p.width,.slice pa p.chans.length ca,.slice pb p.arrays.length cb,.slice pc p.funcs.length cc,.slice pd p.main.length cd] wo from by rw [<- hwo];exact (BxL.new _ _ _).al _)
 have HZo:=hid (show BxL 39 (w.heap.size+1) [.int .i64 0,.int .i64 0] wo from by rw [<- hwo];have h:=BxL.new 39 (w.alloc (.cells #[.int .i64 p.width,.slice pa p.chans.length ca,.slice pb p.arrays.length cb,.slice pc p.funcs.length cc,.slice pd p.main.length cd] 27)) [.int .i64 0,.int .i64 0];rwa [sA] at h)
 have HBO:=hid (show Below w.heap.size w wo from by rw [<- hwo];exact (bA).alloc (by rw [sA];omega) _)
 have HGO:=hid (show PgV (·<wo.heap.size) wo (.slice pa p.chans.length ca) (.slice pb p.arrays.length cb) (.slice pc p.funcs.length cc) (.slice pd p.main.length cd) p from HP.below HBO.out)
 clear hwo
 obtain ⟨n0,n1,n2,n3,n4⟩:=HXo.c5
 go_enter Tryz.func93,Tryz.ntmps93
 go_upto_region 1 with fail
 rw [HWO.out]
 go_wp2_with fail
 clear n0 n1 n2 n3 n4
 go_loopw [4,5,6] (fun iv u5 u6 wr=>∃ i:Nat,i<=p.funcs.length+1/\iv=.int .i64 (i:Int)/\(∀ j,j<i->rtAt p j=none)/\Below wo.heap.size wo wr) (fun iv _ _ _=>p.funcs.length+1 - (intOf iv).toNat)
 case atStart=>exact ⟨0,Nat.zero_le _,rfl,fun j hj=>absurd hj (by omega),Below.refl _ _⟩
 case round =>
  obtain ⟨i,hi,rfl,hno,hbr⟩:=hrel
  obtain ⟨wi,rfl⟩:∃ wi:World,wi=wr:=⟨_,rfl⟩
  have HNO:=hid hno;have HBR:=hid hbr
  have HXr:=hid (HXo.bel hbr);have HZr:=hid (HZo.bel hbr);have HGr:=hid (HGO.below hbr)
  clear hno hbr
  obtain ⟨n0,n1,n2,n3,n4⟩:=HXr.c5
  by_cases hlt:i<=p.funcs.length
  ·have hd:decide ((i:Int)<=(p.funcs.length:Int))=true:=by simp;omega
   have HI:=hid hlt
   have HCL:=hid (rrefers_any p _ _ _ _ i wi HGr.out hlt HL.out)
   cases hrt:rtAt p i with
   | some f =>
    obtain ⟨⟨q0,q1⟩,er⟩:=f
    have HRR:=hid (show r=((q0,q1),er) from by rw [<- HR.out];exact later_fault p i hlt _ HNO.out hrt)
    have hne:(er != 0)=true:=by rw [bne_iff_ne];exact rt_code p _ _ _ hrt
    have HCM:=hid (show Calls Tryz.prog 135 #[.agg #[.int .i64 p.width,.slice pa p.chans.length ca,.slice pb p.arrays.length cb,.slice pc p.funcs.length cc,.slice pd p.main.length cd],.int .i64 (i:Int)] wi (fun e w'=>e=.returned (.tuple #[.agg #[.int .i64 q0,.int .i64 q1],.int .i64 er])/\Below wi.heap.size wi w') from by have h:=HCL.out;unfold rtAt at hrt;rw [hrt] at h;exact h)
    clear hrt HCL
    go_wp2_with (go_at_call 135;(refine HCM.out.mono ?_);rintro e w3 ⟨rfl,hb3⟩;have HB3:=hid (HBR.out.trans (hb3.mono HBR.out.size));have HZ3:=hid (HZr.out.bel hb3);obtain ⟨z0,z1,y0,y1⟩:=HZ3.out.z2;obtain ⟨az0,az1,ay0,ay1⟩:=(HZ3.out.al (.cells #[.int .i64 q0,.int .i64 q1] 39)).z2;clear hb3)
    obtain ⟨d0,d1⟩:=pos_two (HZ3.al (.cells #[.int .i64 q0,.int .i64 q1] 39)) (.int .i64 q0) (.int .i64 q1)
    (try simp only [Exit.inBlock,Exit.then])
    refine bodyPost_ret (v := .tuple #[.agg #[.int .i64 q0,.int .i64 q1],.int .i64 er]) (by simp [results,Tryz.results93,go_sem,d0,d1]) rfl ?_
    have h9:=HRR.out
    subst h9
    have hfin:=fun v0 v1=>(((HBO.trans (HB3.mono HBO.size)).alloc (Nat.le_trans HBO.size HB3.size) (.cells #[.int .i64 q0,.int .i64 q1] 39)).setCell (p:=⟨w.heap.size+1,0,none⟩) (by show _<=_+1;omega) v0).setCell (p:=⟨w.heap.size+1,1,none⟩) (by show _<=_+1;omega) v1
    exact ⟨rfl,hfin _ _⟩
   | none =>
    have HNN:=hid (show ∀ j,j<i+1->rtAt p j=none from fun j hj=>by
     by_cases e:j=i
     ·rw [e];exact hrt
     ·exact HNO.out j (by omega))
    have HCM:=hid (show Calls Tryz.prog 135 #[.agg #[.int .i64 p.width,.slice pa p.chans.length ca,.slice pb p.arrays.length cb,.slice pc p.funcs.length cc,.slice pd p.main.length cd],.int .i64 (i:Int)] wi (fun e w'=>e=.returned (.tuple #[.agg #[.int .i64 0,.int .i64 0],.int .i64 0])/\Below wi.heap.size wi w') from by have h:=HCL.out;unfold rtAt at hrt;rw [hrt] at h;exact h)
    clear hrt HCL
    go_wp2_with (go_at_call 135;(refine HCM.out.mono ?_);rintro e w3 ⟨rfl,hb3⟩;have HB3:=hid (HBR.out.trans (hb3.mono HBR.out.size));clear hb3)
    go_roundw
    case rel=>exact ⟨i+1,by have:=HI.out;omega,by first | (rw [wrap_next (show i<1000001 by have:=HI.out;have:=HFN.out;omega) (by decide)]) | rfl,HNN.out,HB3.alloc HB3.size _⟩
    case measure=>(have h1:=HI.out;have h2:=HFN.out;rw [wrap_next (show i<1000001 by omega) (by decide)];show _ - ((i+1:Nat):Int).toNat<_ - ((i:Nat):Int).toNat;omega)
  ·have hii:i=p.funcs.length+1:=by omega
   have hd:decide ((i:Int)<=(p.funcs.length:Int))=false:=by simp;omega
   have HON:=hid (later_on p (by rw [<- hii];exact HNO.out))
   have hd2:¬ i<=p.funcs.length:=hlt
   have hd3:decide (i<=p.funcs.length)=false:=decide_eq_false hlt
   clear hi hii
   go_wp2_with fail
   clear hd hd2 hd3 hlt n0 n1 n2 n3 n4
   go_loopw [7] (fun iv wr=>∃ i:Nat,i<=p.funcs.length/\iv=.int .i64 (i:Int)/\rloopsM p i (p.funcs.drop i)=rloopsM p 0 p.funcs/\Below wo.heap.size wo wr) (fun iv _=>p.funcs.length - (intOf iv).toNat)
   case atStart=>exact ⟨0,Nat.zero_le _,rfl,by rw [List.drop_zero],HBR.out⟩
   case round =>
    obtain ⟨i,hi,rfl,hlo,hbr⟩:=hrel
    obtain ⟨wj,rfl⟩:∃ wj:World,wj=wr:=⟨_,rfl⟩
    have HBJ:=hid hbr
    have HXj:=hid (HXo.bel hbr);have HZj:=hid (HZo.bel hbr);have HGj:=hid (HGO.below hbr)
    by_cases hlt:i<p.funcs.length
    ·rw [rloops_cons p i hlt] at hlo
     obtain ⟨fb,fo,hpc,hRf,hcf⟩:=fu_at HGO.2.2.1 (by omega:0<p.funcs.length)
     obtain ⟨pp,cp,pq,cq,_,_,_,_,_,f3,f4⟩:=hcf i hlt
     subst hpc
     obtain ⟨⟨q0,q1⟩,hq⟩:∃ q,(p.funcs[i]).pos=q:=⟨_,rfl⟩
     rw [hq] at f3 f4 hlo
     simp only at f3 f4
     have HLO:=hid hlo
     clear hlo hbr hq
     have HF3:=hid f3;have HF4:=hid f4;have HRF:=hid hRf
     clear hcf f3 f4 hRf
     obtain ⟨n0,n1,n2,n3,n4⟩:=HXj.p5
     have HLT:=hid hlt
     have HCR:=hid (rreaches_any p _ _ _ _ i wj HGj.out hlt HL.out (fun g hg s hs=>by
      unfold callsM at hs
      obtain ⟨x,hx,rfl⟩:=List.mem_map.1 hs
      obtain ⟨hx1,hx2⟩:=List.mem_filter.1 hx
      exact rlater_closed p p.funcs HON.1 (p.funcs[g]) (List.getElem_mem hg) x hx1 (by simpa using hx2)))
     obtain ⟨bb,hbb⟩:∃ bb,rloopB p i=bb:=⟨_,rfl⟩
     rw [hbb] at HLO HCR
     clear hbb
     cases bb with
     | true =>
      have HRR:=hid (show r=((q0,q1),9) from by rw [<- HR.out,HON.2,<- HLO.out];rfl)
      go_wp2_with (go_at_call 136;(refine HCR.out.mono ?_);rintro e w3 ⟨u,rfl,hcu,hb3⟩;have HB3:=hid (HBJ.out.trans (hb3.mono HBJ.out.size));have HZ3:=hid (HZj.out.bel hb3);have HX3:=hid (HXj.out.bel hb3);clear hb3 n0 n1 n2 n3 n4;obtain ⟨z0,z1,y0,y1⟩:=HZ3.out.z2;have n3:w3.cell? ⟨w.heap.size,3,none⟩=some (.slice (some ⟨fb,fo,none⟩) p.funcs.length cc):=HX3.out.at 3 rfl;have e3:=(HB3.out.cell (p:=⟨fb,fo+i*5+3,none⟩) HRF.out).trans HF3.out;have e4:=(HB3.out.cell (p:=⟨fb,fo+i*5+4,none⟩) HRF.out).trans HF4.out)
      obtain ⟨d0,d1⟩:=pos_two HZ3.out (.int .i64 q0) (.int .i64 q1)
      (try simp only [Exit.inBlock,Exit.then])
      refine bodyPost_ret (v := .tuple #[.agg #[.int .i64 q0,.int .i64 q1],.int .i64 9]) (by simp [results,Tryz.results93,go_sem,d0,d1]) rfl ?_
      have h9:=HRR.out
      subst h9
      have hfin:=fun v0 v1=>((HBO.trans (HB3.mono HBO.size)).setCell (p:=⟨w.heap.size+1,0,none⟩) (by show _<=_+1;omega) v0).setCell (p:=⟨w.heap.size+1,1,none⟩) (by show _<=_+1;omega) v1
      exact ⟨rfl,hfin _ _⟩
     | false =>
      have HLP:=hid (show rloopsM p (i+1) (p.funcs.drop (i+1))=rloopsM p 0 p.funcs from by rw [<- HLO.out];rfl)
      go_wp2_with (go_at_call 136;(refine HCR.out.mono ?_);rintro e w3 ⟨u,rfl,hcu,hb3⟩;have HB3:=hid (HBJ.out.trans (hb3.mono HBJ.out.size));clear hb3 n0 n1 n2 n3 n4)
      go_roundw
      case rel=>exact ⟨i+1,HLT.out,by first | (rw [wrap_next HLT.out (by have:=HFN.out;omega)]) | rfl,HLP.out,HB3.out⟩
      case measure=>first | exact meas_next HLT.out (by have:=HFN.out;omega) | (have h1:=HLT.out;simp [intOf];omega)
    ·obtain rfl:i=p.funcs.length:=by omega
     have HRR:=hid (show r=((0,0),0) from by rw [<- HR.out,HON.2,<- hlo,List.drop_length];rfl)
     have n3:wj.cell? ⟨w.heap.size,3,none⟩=some (.slice pc p.funcs.length cc):=HXj.at 3 rfl
     clear hlt hlo hbr
     obtain ⟨z0,z1,y0,y1⟩:=HZj.z2
     go_wp2_with fail
     obtain ⟨d0,d1⟩:=pos_two HZj.out (.int .i64 0) (.int .i64 0)
     (try simp only [Exit.inBlock,Exit.then])
     refine bodyPost_ret (v := .tuple #[.agg #[.int .i64 0,.int .i64 0],.int .i64 0]) (by simp [results,Tryz.results93,go_sem,d0,d1]) rfl ?_
     have h9:=HRR.out
     subst h9
     have hfin:=fun v0 v1=>((HBO.trans (HBJ.mono HBO.size)).setCell (p:=⟨w.heap.size+1,0,none⟩) (by show _<=_+1;omega) v0).setCell (p:=⟨w.heap.size+1,1,none⟩) (by show _<=_+1;omega) v1
     exact ⟨rfl,hfin _ _⟩
end Go.Proofs.YtoofbgoeipijcaaGreatDoor
