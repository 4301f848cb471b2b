/-
 A part.
-/
import Derived.Test.YtoofbgoeipijcaaGreatDoorVSPtM
namespace Go.Proofs.YtoofbgoeipijcaaGreatDoor
set_option linter.all false
open Go.RowKit Go.Shelf
attribute [local go_sem] Oper.semAt_some
theorem rb_code (chans arrays S:List Bs) (main:Bool):∀ (l:List In) (lb:List Bs) (f:Flt),rbodyM chans arrays S main l lb=some f->f.2 ≠ 0
 | [],_,f,h=>by cases h
 | x :: r,lb,f,h=>by
  unfold rbodyM at h
  cases e:rstepM chans arrays S main lb x with
  | none=>rw [e] at h;exact rb_code chans arrays S main r _ f h
  | some g =>
   rw [e] at h
   cases h
   unfold rstepM at e
   split at e
   ·cases e;simp
   ·split at e
    ·cases e;simp
    ·split at e
     ·cases e;simp
     ·split at e
      ·cases e;simp
      ·split at e
       ·cases e;simp
       ·cases e
theorem rfuncs_cons (chans arrays S seen:List Bs) (f:Fu) (r:List Fu):rfuncsM chans arrays S seen (f :: r) =
  if rnamesM (seen++[f.nm]) ≠ 0 then some (f.pos,rnamesM (seen++[f.nm])) else if rnamesM f.params ≠ 0 then some (f.pos,rnamesM f.params) else
  if 1024<f.code.length then some (f.pos,5) else
  match rbodyM chans arrays S false f.code [] with
  | some x=>some x
  | none=>rfuncsM chans arrays S (seen++[f.nm]) r:=rfl
theorem rarrs_cons (T:List Bs) (i:Nat) (a:Ar) (r:List Ar):rarrsM T i (a :: r) =
  if rnamesM (T.take (i+1)) ≠ 0 then some ((0,0),rnamesM (T.take (i+1))) else if a.size<1\/64<a.size then some ((0,0),3) else rarrsM T (i+1) r:=rfl
def chkB (p:Pg) (T S:List Bs):Flt :=
 if 32<p.arrays.length then ((0,0),5) else
 match rarrsM T 0 p.arrays with
 | some f=>f
 | none =>
 if 32<p.funcs.length then ((0,0),5) else
 match rfuncsM p.chans T S [] p.funcs with
 | some f=>f
 | none =>
 if 1024<p.main.length then ((0,0),5) else
 match rbodyM p.chans T S true p.main [] with
 | some f=>f
 | none=>laterAll p
theorem rcheck_eq (p:Pg):rcheckM p=if p.width<1\/64<p.width then ((0,0),3) else if rnamesM p.chans ≠ 0 then ((0,0),rnamesM p.chans) else chkB p (p.arrays.map Ar.nm) (sitesP p):=rfl
set_option maxRecDepth 100000 in
set_option maxHeartbeats 16000000 in
theorem rcheckP_any (p:Pg) (a b c d:Value) (w:World) (hp:PgV (·<w.heap.size) w a b c d p) (hl:RLen p) :
  Calls Tryz.prog 51 #[.agg #[.int .i64 p.width,a,b,c,d]] w fun e w'=>e=.returned (.tuple #[posV (checkM p).1,.int .i64 (checkM p).2])/\Below w.heap.size w w':=by
 rw [check_eq]
 obtain ⟨pa,ca,hva⟩:=hp.1.slc
 obtain ⟨pb,cb,hvb⟩:=hp.2.1.slc
 obtain ⟨pc,cc,hvc⟩:=hp.2.2.1.slc
 obtain ⟨pd,cd,hvd⟩:=hp.2.2.2.slc
 subst hva hvb hvc hvd
 have HP:=hid hp
 obtain ⟨r,hr⟩:∃ r,rcheckM p=r:=⟨_,rfl⟩
 rw [hr]
 have HL:=hid hl;have HFN:=hid hl.funcs
 rw [rcheck_eq] at hr
 obtain ⟨T,hT⟩:∃ T,p.arrays.map Ar.nm=T:=⟨_,rfl⟩
 obtain ⟨S,hS⟩:∃ S,sitesP p=S:=⟨_,rfl⟩
 rw [hT,hS] at hr
 have HT:=hid hT;have HSD:=hid hS
 have HTS:=hid (show ∀ s ∈ T,s.length<=140737488355328 from by rw [<- hT];intro s hs;obtain ⟨y,hy,rfl⟩:=List.mem_map.1 hs;exact hl.arrs y hy)
 have HTL:=hid (show T.length=p.arrays.length from by rw [<- hT,List.length_map])
 have HAL:=hid hl.arrays
 have HRQ:=hid hr
 clear hp hl hr hT hS
 obtain ⟨wo,hwo⟩:∃ W,(w.alloc (.cells #[.int .i64 p.width,.slice pa p.chans.length ca,.slice pb p.arrays.length cb,.slice pc p.funcs.length cc,.slice pd p.main.length cd] 27)).alloc (.cells #[.int .i64 0,.int .i64 0] 39)=W:=⟨_,rfl⟩
 have HWO:=hid hwo
 have HXo:=hid (show BxL 27 w.heap.size [.int .i64 p.width,.slice pa p.chans.length ca,.slice pb p.arrays.length cb,.slice pc p.funcs.length cc,.slice pd p.main.length cd] wo from by rw [<- hwo];exact (BxL.new _ _ _).al _)
 have HZo:=hid (show BxL 39 (w.heap.size+1) [.int .i64 0,.int .i64 0] wo from by rw [<- hwo];have h:=BxL.new 39 (w.alloc (.cells #[.int .i64 p.width,.slice pa p.chans.length ca,.slice pb p.arrays.length cb,.slice pc p.funcs.length cc,.slice pd p.main.length cd] 27)) [.int .i64 0,.int .i64 0];rwa [sA] at h)
 have HBo:=hid (show Below w.heap.size w wo from by rw [<- hwo];exact (bA).alloc (by rw [sA];omega) _)
 have HGo:=hid (show PgV (·<wo.heap.size) wo (.slice pa p.chans.length ca) (.slice pb p.arrays.length cb) (.slice pc p.funcs.length cc) (.slice pd p.main.length cd) p from HP.below HBo.out)
 clear hwo
 obtain ⟨n0,n1,n2,n3,n4⟩:=HXo.c5
 obtain ⟨z0,z1,y0,y1⟩:=HZo.z2
 go_enter Tryz.func51,Tryz.ntmps51
 go_upto_region 1 with fail
 rw [HWO.out]
 have HCH:=hid HGo.1;have HLC:=hid HL.chans
 by_cases hw1:p.width<1
 ·have d1:decide (p.width<1)=true:=by simpa using hw1
  have HRR:=hid (show r=((0,0),3) from by rw [<- HRQ.out,if_pos (.inl hw1)])
  clear hw1
  go_wp2_with fail
  obtain ⟨d0,d1⟩:=pos_two HZo.out (.int .i64 0) (.int .i64 0)
  (try simp only [Exit.inBlock,Exit.then])
  refine bodyPost_ret (v := .tuple #[.agg #[.int .i64 0,.int .i64 0],.int .i64 3]) (by simp [results,Tryz.results51,go_sem,d0,d1]) rfl ?_
  have h9:=HRR.out
  subst h9
  have hfin:=fun v0 v1=>((HBo.out).setCell (p:=⟨w.heap.size+1,0,none⟩) (by show _<=_+1;omega) v0).setCell (p:=⟨w.heap.size+1,1,none⟩) (by show _<=_+1;omega) v1
  exact ⟨rfl,hfin _ _⟩
 have d1:decide (p.width<1)=false:=by simpa using hw1
 by_cases hw2:64<p.width
 ·have d2:decide (64<p.width)=true:=by simpa using hw2
  have HRR:=hid (show r=((0,0),3) from by rw [<- HRQ.out,if_pos (.inr hw2)])
  clear hw1 hw2
  go_wp2_with fail
  obtain ⟨d0,d1⟩:=pos_two HZo.out (.int .i64 0) (.int .i64 0)
  (try simp only [Exit.inBlock,Exit.then])
  refine bodyPost_ret (v := .tuple #[.agg #[.int .i64 0,.int .i64 0],.int .i64 3]) (by simp [results,Tryz.results51,go_sem,d0,d1]) rfl ?_
  have h9:=HRR.out
  subst h9
  have hfin:=fun v0 v1=>((HBo.out).setCell (p:=⟨w.heap.size+1,0,none⟩) (by show _<=_+1;omega) v0).setCell (p:=⟨w.heap.size+1,1,none⟩) (by show _<=_+1;omega) v1
  exact ⟨rfl,hfin _ _⟩
 have d2:decide (64<p.width)=false:=by simpa using hw2
 have HRW:=hid (show (if rnamesM p.chans ≠ 0 then ((0,0),rnamesM p.chans) else chkB p T S)=r from by have h:=HRQ.out;rw [if_neg (show ¬ (p.width<1\/64<p.width) by omega)] at h;exact h)
 clear hw1 hw2 HRQ
 obtain ⟨rn,hrn⟩:∃ rn,rnamesM p.chans=rn:=⟨_,rfl⟩
 rw [hrn] at HRW
 have HRN:=hid hrn
 clear hrn
 go_upto_region 4 with (go_at_call 90;(with_reducible refine (rnames22_any p.chans _ _ _ HCH.out (fun _ h=>h) HLC.out).mono ?_);rintro e w1 ⟨rfl,hb1⟩;rw [HRN.out];have HB1:=hid (HBo.out.trans ((hb1).mono HBo.out.size));have HX1:=hid (HXo.out.bel (hb1));have HZ1:=hid (HZo.out.bel (hb1));have HG1:=hid (HP.out.below HB1.out);clear hb1 n0 n1 n2 n3 n4 z0 z1 y0 y1)
 clear d1 d2
 obtain ⟨n0,n1,n2,n3,n4⟩:=HX1.c5
 obtain ⟨z0,z1,y0,y1⟩:=HZ1.z2
 by_cases hz:rn=0
 case neg =>
  have hne:(rn != 0)=true:=by rw [bne_iff_ne];exact hz
  have HRR:=hid (show r=((0,0),rn) from by rw [<- HRW.out,if_pos hz])
  clear hz
  go_wp2_with fail
  obtain ⟨d0,d1⟩:=pos_two HZ1.out (.int .i64 0) (.int .i64 0)
  (try simp only [Exit.inBlock,Exit.then])
  refine bodyPost_ret (v := .tuple #[.agg #[.int .i64 0,.int .i64 0],.int .i64 rn]) (by simp [results,Tryz.results51,go_sem,d0,d1]) rfl ?_
  have h9:=HRR.out
  subst h9
  have hfin:=fun v0 v1=>((HB1.out).setCell (p:=⟨w.heap.size+1,0,none⟩) (by show _<=_+1;omega) v0).setCell (p:=⟨w.heap.size+1,1,none⟩) (by show _<=_+1;omega) v1
  exact ⟨rfl,hfin _ _⟩
 have HRV:=hid (show chkB p T S=r from by rw [<- HRW.out,if_neg (fun h=>h hz)])
 clear HRW HRN
 subst hz
 go_upto_region 6 with fail
 by_cases ha:32<p.arrays.length
 ·have d1:decide ((32:Int)<(p.arrays.length:Int))=true:=by simp;omega
  have HRR:=hid (show r=((0,0),5) from by rw [<- HRV.out];unfold chkB;rw [if_pos ha])
  clear ha
  go_wp2_with fail
  obtain ⟨d0,d1⟩:=pos_two HZ1.out (.int .i64 0) (.int .i64 0)
  (try simp only [Exit.inBlock,Exit.then])
  refine bodyPost_ret (v := .tuple #[.agg #[.int .i64 0,.int .i64 0],.int .i64 5]) (by simp [results,Tryz.results51,go_sem,d0,d1]) rfl ?_
  have h9:=HRR.out
  subst h9
  have hfin:=fun v0 v1=>((HB1.out).setCell (p:=⟨w.heap.size+1,0,none⟩) (by show _<=_+1;omega) v0).setCell (p:=⟨w.heap.size+1,1,none⟩) (by show _<=_+1;omega) v1
  exact ⟨rfl,hfin _ _⟩
 have d1:decide ((32:Int)<(p.arrays.length:Int))=false:=by simp;omega
 have HR2:=hid HRV.out
 unfold chkB at HR2
 rw [if_neg ha] at HR2
 clear ha HRV
 go_wp2_with fail
 clear d1 n0 n1 n2 n3 n4 z0 z1 y0 y1
 go_loopw [5,6] (fun iv u6 wr=>∃ i:Nat,i<=p.arrays.length/\iv=.int .i64 (i:Int)/\rarrsM T i (p.arrays.drop i)=rarrsM T 0 p.arrays/\Below w1.heap.size w1 wr) (fun iv _ _=>p.arrays.length - (intOf iv).toNat)
 case atStart=>exact ⟨0,Nat.zero_le _,rfl,by rw [List.drop_zero],Below.refl _ _⟩
 case round =>
  obtain ⟨i,hi,rfl,har,hbr⟩:=hrel
  obtain ⟨wi,rfl⟩:∃ wi:World,wi=wr:=⟨_,rfl⟩
  have HBi:=hid (HB1.trans ((hbr).mono HB1.size))
  have HXi:=hid (HX1.bel (hbr))
  have HZi:=hid (HZ1.bel (hbr))
  have HGi:=hid (HP.below HBi.out)
  have HBR:=hid hbr
  by_cases hlt:i<p.arrays.length
  ·obtain ⟨ab,ao,rfl,hRa,hca⟩:=ar_at HP.2.1 (by omega:0<p.arrays.length)
   obtain ⟨n0,n1,n2,n3,n4⟩:=HXi.c5
   obtain ⟨z0,z1,y0,y1⟩:=HZi.z2
   rw [List.drop_eq_getElem_cons hlt,rarrs_cons] at har
   obtain ⟨c0,c1⟩:=hca i hlt
   obtain ⟨K1,hK1⟩:∃ K,K=i+1:=⟨_,rfl⟩
   rw [<- hK1] at har
   obtain ⟨sz,hsz⟩:∃ sz,(p.arrays[i]).size=sz:=⟨_,rfl⟩
   rw [hsz] at har c1
   have HC1:=hid c1;have HRa:=hid hRa
   have HAR:=hid har;have HLT:=hid hlt;have HK1:=hid hK1
   have HKT:=hid (show K1<=T.length from by rw [HTL.out];omega)
   have hwk:wrap64 ((i:Int)+1)=(K1:Int):=by rw [hK1];exact wrap_next hlt (by have:=HP.2.1.len;omega)
   have hwk2:(i:Int)+1=(K1:Int):=by omega
   have hwk3:wrap64 (K1:Int)=(K1:Int):=by rw [<- hwk2,hwk];omega
   obtain ⟨rn,hrn⟩:∃ rn,rnamesM (T.take K1)=rn:=⟨_,rfl⟩
   rw [hrn] at HAR
   have HRN:=hid hrn
   clear c0 c1 hca hRa har hlt hK1 hrn hsz hbr hi
   go_upto_region 12 with (first
    | (go_at_call 91;(with_reducible refine (rarrnames_any p _ _ _ _ wi HGi.out HAL.out).mono ?_);rintro e w3 ⟨v3,rfl,hs3,hb3⟩;rw [HT.out] at hs3;obtain ⟨p3,c3,rfl⟩:=hs3.slc;have HS3:=hid (hs3.slw (by rw [HTL.out];have:=HAL.out;omega));have HB3:=hid (HBi.out.trans ((hb3).mono HBi.out.size));have HX3:=hid (HXi.out.bel (hb3));have HZ3:=hid (HZi.out.bel (hb3));have HG3:=hid (HP.out.below HB3.out);have HF3:=hid (HBR.out.trans (hb3.mono HBR.out.size));have hk3:K1<=c3:=Nat.le_trans HKT.out HS3.out.cap;clear hs3 hb3 n0 n1 n2 n3 n4 z0 z1 y0 y1)
    | (go_at_call 90;(with_reducible refine (rnames22_any (T.take K1) _ _ _ (HS3.out.cut K1 HKT.out) (fun _ h=>h) (fun s hs=>HTS.out s (List.mem_of_mem_take hs))).mono ?_);rintro e w4 ⟨rfl,hb4⟩;rw [HRN.out];have HB4:=hid (HB3.out.trans ((hb4).mono HB3.out.size));have HX4:=hid (HX3.out.bel (hb4));have HZ4:=hid (HZ3.out.bel (hb4));have HG4:=hid (HP.out.below HB4.out);have HF4:=hid (HF3.out.trans (hb4.mono HF3.out.size));clear hb4))
   clear hwk hwk2 hwk3
   obtain ⟨n0,n1,n2,n3,n4⟩:=HX4.c5
   obtain ⟨z0,z1,y0,y1⟩:=HZ4.z2
   by_cases hz:rn=0
   case neg =>
    have hne:(rn != 0)=true:=by rw [bne_iff_ne];exact hz
    have HRR:=hid (show r=((0,0),rn) from by have h:=HAR.out;rw [if_pos hz] at h;rw [<- h] at HR2;exact HR2.symm)
    clear hz
    go_wp2_with fail
    obtain ⟨d0,d1⟩:=pos_two HZ4.out (.int .i64 0) (.int .i64 0)
    (try simp only [Exit.inBlock,Exit.then])
    refine bodyPost_ret (v := .tuple #[.agg #[.int .i64 0,.int .i64 0],.int .i64 rn]) (by simp [results,Tryz.results51,go_sem,d0,d1]) rfl ?_
    have h9:=HRR.out
    subst h9
    have hfin:=fun v0 v1=>((HB4.out).setCell (p:=⟨w.heap.size+1,0,none⟩) (by show _<=_+1;omega) v0).setCell (p:=⟨w.heap.size+1,1,none⟩) (by show _<=_+1;omega) v1
    exact ⟨rfl,hfin _ _⟩
   have HA2:=hid (show (if sz<1\/64<sz then some (((0,0),3):Flt) else rarrsM T K1 (p.arrays.drop K1))=rarrsM T 0 p.arrays from by have h:=HAR.out;rw [if_neg (fun h=>h hz)] at h;exact h)
   clear HRN HAR
   subst hz
   go_upto_region 14 with fail
   have e1:=(HB4.cell (p:=⟨ab,ao+i*2+1,none⟩) HRa.out).trans HC1.out
   have hlt:=HLT.out
   by_cases hw1:sz<1
   ·have d1:decide (sz<1)=true:=by simpa using hw1
    have HRR:=hid (show r=((0,0),3) from by have h:=HA2.out;rw [if_pos (.inl hw1)] at h;rw [<- h] at HR2;exact HR2.symm)
    clear hw1
    go_wp2_with fail
    obtain ⟨d0,d1⟩:=pos_two HZ4.out (.int .i64 0) (.int .i64 0)
    (try simp only [Exit.inBlock,Exit.then])
    refine bodyPost_ret (v := .tuple #[.agg #[.int .i64 0,.int .i64 0],.int .i64 3]) (by simp [results,Tryz.results51,go_sem,d0,d1]) rfl ?_
    have h9:=HRR.out
    subst h9
    have hfin:=fun v0 v1=>((HB4.out).setCell (p:=⟨w.heap.size+1,0,none⟩) (by show _<=_+1;omega) v0).setCell (p:=⟨w.heap.size+1,1,none⟩) (by show _<=_+1;omega) v1
    exact ⟨rfl,hfin _ _⟩
   have d1:decide (sz<1)=false:=by simpa using hw1
   by_cases hw2:64<sz
   ·have d2:decide (64<sz)=true:=by simpa using hw2
    have HRR:=hid (show r=((0,0),3) from by have h:=HA2.out;rw [if_pos (.inr hw2)] at h;rw [<- h] at HR2;exact HR2.symm)
    clear hw1 hw2
    go_wp2_with fail
    obtain ⟨d0,d1⟩:=pos_two HZ4.out (.int .i64 0) (.int .i64 0)
    (try simp only [Exit.inBlock,Exit.then])
    refine bodyPost_ret (v := .tuple #[.agg #[.int .i64 0,.int .i64 0],.int .i64 3]) (by simp [results,Tryz.results51,go_sem,d0,d1]) rfl ?_
    have h9:=HRR.out
    subst h9
    have hfin:=fun v0 v1=>((HB4.out).setCell (p:=⟨w.heap.size+1,0,none⟩) (by show _<=_+1;omega) v0).setCell (p:=⟨w.heap.size+1,1,none⟩) (by show _<=_+1;omega) v1
    exact ⟨rfl,hfin _ _⟩
   have d2:decide (64<sz)=false:=by simpa using hw2
   have HA3:=hid (show rarrsM T K1 (p.arrays.drop K1)=rarrsM T 0 p.arrays from by have h:=HA2.out;rw [if_neg (by omega)] at h;exact h)
   clear hw1 hw2 HA2
   go_wp2_with fail
   go_roundw
   case rel=>exact ⟨K1,by have:=HLT.out;have:=HK1.out;omega,by rw [HK1.out];first | (rw [wrap_next HLT.out (by have:=HAL.out;omega)]) | rfl,HA3.out,HF4.out⟩
   case measure=>first | exact meas_next HLT.out (by have:=HAL.out;omega) | (have h1:=HLT.out;simp [intOf];omega)
  ·obtain rfl:i=p.arrays.length:=by omega
   obtain ⟨n0,n1,n2,n3,n4⟩:=HXi.c5
   obtain ⟨z0,z1,y0,y1⟩:=HZi.z2
   rw [List.drop_length] at har
   have HR3:=hid HR2.out
   rw [<- har] at HR3
   have HR4:=hid (show (if 32<p.funcs.length then ((0,0),5) else
    match rfuncsM p.chans T S [] p.funcs with
    | some f=>f
    | none=>if 1024<p.main.length then ((0,0),5) else match rbodyM p.chans T S true p.main [] with | some f=>f | none=>laterAll p)=r from HR3.out)
   clear hlt har hbr hi HR2 HR3
   go_upto_region 16 with fail
   by_cases ha:32<p.funcs.length
   ·have d1:decide ((32:Int)<(p.funcs.length:Int))=true:=by simp;omega
    have HRR:=hid (show r=((0,0),5) from by rw [<- HR4.out,if_pos ha])
    clear ha
    go_wp2_with fail
    obtain ⟨d0,d1⟩:=pos_two HZi.out (.int .i64 0) (.int .i64 0)
    (try simp only [Exit.inBlock,Exit.then])
    refine bodyPost_ret (v := .tuple #[.agg #[.int .i64 0,.int .i64 0],.int .i64 5]) (by simp [results,Tryz.results51,go_sem,d0,d1]) rfl ?_
    have h9:=HRR.out
    subst h9
    have hfin:=fun v0 v1=>((HBi.out).setCell (p:=⟨w.heap.size+1,0,none⟩) (by show _<=_+1;omega) v0).setCell (p:=⟨w.heap.size+1,1,none⟩) (by show _<=_+1;omega) v1
    exact ⟨rfl,hfin _ _⟩
   have d1:decide ((32:Int)<(p.funcs.length:Int))=false:=by simp;omega
   have HR5:=hid HR4.out
   rw [if_neg ha] at HR5
   have HF32:=hid ha
   clear ha HR4
   go_wp2_with fail
   clear d1 n0 n1 n2 n3 n4 z0 z1 y0 y1
   go_loopw [7,8,9,10,11,12,13] (fun lv jv u9 u10 u11 u12 u13 wr=>∃ j:Nat,j<=p.funcs.length/\jv=.int .i64 (j:Int)/\GA kStr wi.heap.size 9 wr lv ((p.funcs.take j).map Fu.nm)/\rfuncsM p.chans T S ((p.funcs.take j).map Fu.nm) (p.funcs.drop j)=rfuncsM p.chans T S [] p.funcs/\Below wi.heap.size wi wr) (fun _ jv _ _ _ _ _ _=>p.funcs.length - (intOf jv).toNat)
   case atStart=>exact ⟨0,Nat.zero_le _,rfl,GA.nil _ _ _ _,by rw [List.drop_zero,List.take_zero];rfl,Below.refl _ _⟩
   case round =>
    obtain ⟨j,hj,rfl,hga,hfu,hbr⟩:=hrel
    obtain ⟨wj,rfl⟩:∃ wj:World,wj=wr:=⟨_,rfl⟩
    obtain ⟨seen,hseen⟩:∃ L,(p.funcs.take j).map Fu.nm=L:=⟨_,rfl⟩
    rw [hseen] at hga hfu
    have HSE:=hid hseen
    have HSL:=hid (show seen.length<=32 from by rw [<- hseen,List.length_map,List.length_take];have:=HF32.out;omega)
    have HSQ:=hid (show ∀ s ∈ seen,s.length<=140737488355328 from by rw [<- hseen];intro s hs;obtain ⟨y,hy,rfl⟩:=List.mem_map.1 hs;exact (HL.each y (List.mem_of_mem_take hy)).1)
    obtain ⟨po,co,rfl⟩:=hga.slc
    have HBR:=hid hbr;have HGA:=hid hga
    have HBj:=hid (HBi.trans ((hbr).mono HBi.size))
    have HXj:=hid (HXi.bel (hbr))
    have HZj:=hid (HZi.bel (hbr))
    have HGj:=hid (HP.below HBj.out)
    clear hseen
    by_cases hlt:j<p.funcs.length
    ·obtain ⟨fb,fo,rfl,hRf,hcf⟩:=fu_at HP.2.2.1 (by omega:0<p.funcs.length)
     obtain ⟨n0,n1,n2,n3,n4⟩:=HXj.c5
     obtain ⟨z0,z1,y0,y1⟩:=HZj.z2
     obtain ⟨pp,cp,pq,cq,hpar,hcode,f0,f1,f2,f3,f4⟩:=hcf j hlt
     rw [List.drop_eq_getElem_cons hlt,rfuncs_cons] at hfu
     have HEA:=hid (HL.each _ (List.getElem_mem hlt))
     have HBD:=hid (rbody_any p (.slice pa p.chans.length ca) (.slice pb p.arrays.length cb) (.slice (some ⟨fb,fo,none⟩) p.funcs.length cc) (.slice pd p.main.length cd) j)
     have hba:bodyAt p j=(p.funcs[j]).code:=by unfold bodyAt;rw [dif_pos hlt]
     rw [hba,HT.out,HSD.out,decide_eq_false (by omega:¬ j=p.funcs.length)] at HBD
     have HSN:=hid (show (p.funcs.take (j+1)).map Fu.nm=seen++[(p.funcs[j]).nm] from by rw [List.take_succ_eq_append_getElem hlt,List.map_append,HSE.out];rfl)
     have HFU:=hid hfu;have HLT:=hid hlt
     replace f0:=(HBj.cell (p:=⟨fb,fo+j*5,none⟩) hRf).trans f0
     replace f1:=(HBj.cell (p:=⟨fb,fo+j*5+1,none⟩) hRf).trans f1
     replace f2:=(HBj.cell (p:=⟨fb,fo+j*5+2,none⟩) hRf).trans f2
     replace f3:=(HBj.cell (p:=⟨fb,fo+j*5+3,none⟩) hRf).trans f3
     replace f4:=(HBj.cell (p:=⟨fb,fo+j*5+4,none⟩) hRf).trans f4
     have HPA:=hid hpar
     clear hcode hcf hRf hpar hba hbr hga hfu hj
     generalize p.funcs[j]=g at *
     have HE2:=hid HEA.2
     obtain ⟨nP,hnP⟩:∃ n,g.params.length=n:=⟨_,rfl⟩
     obtain ⟨nC,hnC⟩:∃ n,g.code.length=n:=⟨_,rfl⟩
     rw [hnP] at f1 HPA
     rw [hnC] at f2
     have HNC:=hid hnC
     clear hnP hnC hlt
     have hlt:=HLT.out
     go_upto_region 23 with fail
     obtain ⟨wx,hwx⟩:∃ W,wj.alloc (.cells #[.string ⟨g.nm.toArray⟩,.slice pp nP cp,.slice pq nC cq,.int .i64 g.pos.1,.int .i64 g.pos.2] 74)=W:=⟨_,rfl⟩
     have hbx:Below wj.heap.size wj wx:=by rw [<- hwx];exact bA
     have HUx:=hid (show BxL 74 wj.heap.size [.string ⟨g.nm.toArray⟩,.slice pp nP cp,.slice pq nC cq,.int .i64 g.pos.1,.int .i64 g.pos.2] wx from by rw [<- hwx];exact BxL.new _ _ _)
     rw [hwx]
     have HBx:=hid (HBj.trans ((hbx).mono HBj.size))
     have HXx:=hid (HXj.bel (hbx))
     have HZx:=hid (HZj.bel (hbx))
     have HGx:=hid (HP.below HBx.out)
     have HGX:=hid (HGA.keep hbx)
     have HVx:=hid (HBR.trans (hbx.mono HBR.size))
     clear hwx hbx f0 f1 f2 f3 f4 n0 n1 n2 n3 n4 z0 z1 y0 y1
     obtain ⟨m0,m1,m2,m3,m4⟩:=HUx.c5
     obtain ⟨z0,z1,y0,y1⟩:=HZx.z2
     obtain ⟨y,hy⟩:∃ y,g.nm=y:=⟨_,rfl⟩
     rw [hy] at m0 HSN HFU
     have HY:=hid (show y.length<=140737488355328 from by rw [<- hy];exact HEA.1)
     clear hy
     obtain ⟨rn,hrn⟩:∃ rn,rnamesM (seen++[y])=rn:=⟨_,rfl⟩
     rw [hrn] at HFU
     have HRN:=hid hrn
     clear hrn
     obtain ⟨sn,hsn⟩:∃ L,seen++[y]=L:=⟨_,rfl⟩
     have HSQ2:=hid (show ∀ s ∈ sn,s.length<=140737488355328 from by rw [<- hsn];intro s hs;rcases List.mem_append.1 hs with h | h;exact HSQ.out s h;rw [List.mem_singleton.1 h];exact HY.out)
     have HSL2:=hid (show sn.length<=33 from by rw [<- hsn,List.length_append];have:=HSL.out;simp;omega)
     rw [hsn] at HFU HSN HRN
     have HSNN:=hid hsn
     clear hsn
     go_upto_region 25 with (first
      | (at_builtin;refine wpList_push (K:=kStr) (x:=y) (cs:=[.string ⟨y.toArray⟩]) (te:=9) rfl _ _ 22 rfl Tryz.underlying22 _ 16 info_strG rfl HGX.out rfl rfl rfl (by have:=HSL.out;omega) (by have:=HSL.out;unfold maxLen;omega) HVx.out.size ?_;intro v5 w5 hg5 hgr5 hm5;rw [HSNN.out] at hg5;obtain ⟨p5,c5,rfl⟩:=hg5.slc;have HE5:=hid hg5;have hb5:=GA.below HGX.out (Below.refl _ _) hgr5 HVx.out.size;have HV5:=hid (HVx.out.trans hb5);have HB5:=hid (HBi.out.trans (HV5.out.mono HBi.out.size));have HX5:=hid (HXi.out.bel HV5.out);have HZ5:=hid (HZi.out.bel HV5.out);have HG5:=hid (HP.out.below HB5.out);have HU5:=hid (HUx.out.keep (hgr5.block _ (by rw [sA];have:=HUx.out.lt;omega) (fun e=>by have:=(HGA.out.lt _ e.symm).2;omega) |>.trans (by rw [heap_al,if_neg (by have:=HUx.out.lt;omega)])));clear hg5 hgr5 hm5 hb5 m0 m1 m2 m3 m4 z0 z1 y0 y1)
      | (go_at_call 90;(with_reducible refine (rnames22_any sn _ _ _ (HE5.out.gfS.slw (by have:=HSL2.out;omega)) (fun _ h=>h) HSQ2.out).mono ?_);rintro e w6 ⟨rfl,hb6⟩;rw [HRN.out];have HB6:=hid (HB5.out.trans ((hb6).mono HB5.out.size));have HX6:=hid (HX5.out.bel (hb6));have HZ6:=hid (HZ5.out.bel (hb6));have HG6:=hid (HP.out.below HB6.out);have HU6:=hid (HU5.out.bel (hb6));have HE6:=hid (HE5.out.keep (hb6));have HV6:=hid (HV5.out.trans ((hb6).mono HV5.out.size));clear hb6))
     obtain ⟨m0,m1,m2,m3,m4⟩:=HU6.c5
     obtain ⟨z0,z1,y0,y1⟩:=HZ6.z2
     by_cases hz:rn=0
     case neg =>
      have hne:(rn != 0)=true:=by rw [bne_iff_ne];exact hz
      have HRR:=hid (show r=(g.pos,rn) from by have h:=HFU.out;rw [if_pos hz] at h;rw [<- h] at HR5;exact HR5.symm)
      clear hz
      go_wp2_with fail
      obtain ⟨d0,d1⟩:=pos_two HZ6.out (.int .i64 g.pos.1) (.int .i64 g.pos.2)
      (try simp only [Exit.inBlock,Exit.then])
      refine bodyPost_ret (v := .tuple #[.agg #[.int .i64 g.pos.1,.int .i64 g.pos.2],.int .i64 rn]) (by simp [results,Tryz.results51,go_sem,d0,d1]) rfl ?_
      have h9:=HRR.out
      subst h9
      have hfin:=fun v0 v1=>((HB6.out).setCell (p:=⟨w.heap.size+1,0,none⟩) (by show _<=_+1;omega) v0).setCell (p:=⟨w.heap.size+1,1,none⟩) (by show _<=_+1;omega) v1
      exact ⟨rfl,hfin _ _⟩
     have HFV:=hid HFU.out
     rw [if_neg (fun h=>h hz)] at HFV
     clear HRN HFU
     subst hz
     obtain ⟨rm,hrm⟩:∃ rm,rnamesM g.params=rm:=⟨_,rfl⟩
     rw [hrm] at HFV
     have HRM:=hid hrm
     clear hrm
     go_upto_region 28 with (go_at_call 90;(with_reducible refine (rnames22_any g.params _ _ _ (HPA.out.below HB6.out) (fun _ h=>h) HE2.out).mono ?_);rintro e w7 ⟨rfl,hb7⟩;rw [HRM.out];have HB7:=hid (HB6.out.trans ((hb7).mono HB6.out.size));have HX7:=hid (HX6.out.bel (hb7));have HZ7:=hid (HZ6.out.bel (hb7));have HG7:=hid (HP.out.below HB7.out);have HU7:=hid (HU6.out.bel (hb7));have HE7:=hid (HE6.out.keep (hb7));have HV7:=hid (HV6.out.trans ((hb7).mono HV6.out.size));clear hb7 m0 m1 m2 m3 m4 z0 z1 y0 y1)
     obtain ⟨m0,m1,m2,m3,m4⟩:=HU7.c5
     obtain ⟨z0,z1,y0,y1⟩:=HZ7.z2
     by_cases hz:rm=0
     case neg =>
      have hne:(rm != 0)=true:=by rw [bne_iff_ne];exact hz
      have HRR:=hid (show r=(g.pos,rm) from by have h:=HFV.out;rw [if_pos hz] at h;rw [<- h] at HR5;exact HR5.symm)
      clear hz
      go_wp2_with fail
      obtain ⟨d0,d1⟩:=pos_two HZ7.out (.int .i64 g.pos.1) (.int .i64 g.pos.2)
      (try simp only [Exit.inBlock,Exit.then])
      refine bodyPost_ret (v := .tuple #[.agg #[.int .i64 g.pos.1,.int .i64 g.pos.2],.int .i64 rm]) (by simp [results,Tryz.results51,go_sem,d0,d1]) rfl ?_
      have h9:=HRR.out
      subst h9
      have hfin:=fun v0 v1=>((HB7.out).setCell (p:=⟨w.heap.size+1,0,none⟩) (by show _<=_+1;omega) v0).setCell (p:=⟨w.heap.size+1,1,none⟩) (by show _<=_+1;omega) v1
      exact ⟨rfl,hfin _ _⟩
     have HFW:=hid HFV.out
     rw [if_neg (fun h=>h hz),HNC.out] at HFW
     clear HRM HFV
     subst hz
     go_upto_region 30 with fail
     by_cases hk:1024<nC
     ·have d1:decide ((1024:Int)<(nC:Int))=true:=by simp;omega
      have HRR:=hid (show r=(g.pos,5) from by have h:=HFW.out;rw [if_pos hk] at h;rw [<- h] at HR5;exact HR5.symm)
      clear hk
      go_wp2_with fail
      obtain ⟨d0,d1⟩:=pos_two HZ7.out (.int .i64 g.pos.1) (.int .i64 g.pos.2)
      (try simp only [Exit.inBlock,Exit.then])
      refine bodyPost_ret (v := .tuple #[.agg #[.int .i64 g.pos.1,.int .i64 g.pos.2],.int .i64 5]) (by simp [results,Tryz.results51,go_sem,d0,d1]) rfl ?_
      have h9:=HRR.out
      subst h9
      have hfin:=fun v0 v1=>((HB7.out).setCell (p:=⟨w.heap.size+1,0,none⟩) (by show _<=_+1;omega) v0).setCell (p:=⟨w.heap.size+1,1,none⟩) (by show _<=_+1;omega) v1
      exact ⟨rfl,hfin _ _⟩
     have d1:decide ((1024:Int)<(nC:Int))=false:=by simp;omega
     have HFY:=hid HFW.out
     rw [if_neg hk] at HFY
     clear hk HFW
     obtain ⟨n0,n1,n2,n3,n4⟩:=HX7.c5
     have HBC:=hid (HBD.out w7 HG7.out (Nat.le_of_lt hlt) HL.out)
     cases hrb:rbodyM p.chans T S false g.code [] with
     | some q =>
      obtain ⟨⟨q0,q1⟩,er⟩:=q
      have hne:(er != 0)=true:=by rw [bne_iff_ne];exact rb_code _ _ _ _ _ _ _ hrb
      have HRR:=hid (show r=((q0,q1),er) from by have h:=HFY.out;rw [hrb] at h;simp only at h;rw [<- h] at HR5;exact HR5.symm)
      have HCM:=hid (show Calls Tryz.prog 92 #[.agg #[.int .i64 p.width,.slice pa p.chans.length ca,.slice pb p.arrays.length cb,.slice (some ⟨fb,fo,none⟩) p.funcs.length cc,.slice pd p.main.length cd],.int .i64 (j:Int)] w7 (fun e w'=>e=.returned (.tuple #[.agg #[.int .i64 q0,.int .i64 q1],.int .i64 er])/\Below w7.heap.size w7 w') from by have h:=HBC.out;rw [hrb] at h;exact h)
      clear hrb
      go_wp2_with (go_at_call 92;(with_reducible refine HCM.out.mono ?_);rintro e w8 ⟨rfl,hb8⟩;have HB8:=hid (HB7.out.trans ((hb8).mono HB7.out.size));have HX8:=hid (HX7.out.bel (hb8));have HZ8:=hid (HZ7.out.bel (hb8));have HG8:=hid (HP.out.below HB8.out);have HU8:=hid (HU7.out.bel (hb8));have HE8:=hid (HE7.out.keep (hb8));have HV8:=hid (HV7.out.trans ((hb8).mono HV7.out.size));clear hb8 m0 m1 m2 m3 m4 z0 z1 y0 y1 n0 n1 n2 n3 n4;obtain ⟨z0,z1,y0,y1⟩:=HZ8.out.z2;obtain ⟨az0,az1,ay0,ay1⟩:=(HZ8.out.al (.cells #[.int .i64 q0,.int .i64 q1] 39)).z2)
      obtain ⟨d0,d1⟩:=pos_two (HZ8.al (.cells #[.int .i64 q0,.int .i64 q1] 39)) (.int .i64 q0) (.int .i64 q1)
      (try simp only [Exit.inBlock,Exit.then])
      refine bodyPost_ret (v := .tuple #[.agg #[.int .i64 q0,.int .i64 q1],.int .i64 er]) (by simp [results,Tryz.results51,go_sem,d0,d1]) rfl ?_
      have h9:=HRR.out
      subst h9
      have hfin:=fun v0 v1=>((HB8.alloc HB8.size (.cells #[.int .i64 q0,.int .i64 q1] 39)).setCell (p:=⟨w.heap.size+1,0,none⟩) (by show _<=_+1;omega) v0).setCell (p:=⟨w.heap.size+1,1,none⟩) (by show _<=_+1;omega) v1
      exact ⟨rfl,hfin _ _⟩
     | none =>
      have HFZ:=hid (show rfuncsM p.chans T S sn (p.funcs.drop (j+1))=rfuncsM p.chans T S [] p.funcs from by have h:=HFY.out;rw [hrb] at h;exact h)
      have HCM:=hid (show Calls Tryz.prog 92 #[.agg #[.int .i64 p.width,.slice pa p.chans.length ca,.slice pb p.arrays.length cb,.slice (some ⟨fb,fo,none⟩) p.funcs.length cc,.slice pd p.main.length cd],.int .i64 (j:Int)] w7 (fun e w'=>e=.returned (.tuple #[.agg #[.int .i64 0,.int .i64 0],.int .i64 0])/\Below w7.heap.size w7 w') from by have h:=HBC.out;rw [hrb] at h;exact h)
      clear hrb
      go_wp2_with (go_at_call 92;(with_reducible refine HCM.out.mono ?_);rintro e w8 ⟨rfl,hb8⟩;have HB8:=hid (HB7.out.trans ((hb8).mono HB7.out.size));have HX8:=hid (HX7.out.bel (hb8));have HZ8:=hid (HZ7.out.bel (hb8));have HG8:=hid (HP.out.below HB8.out);have HU8:=hid (HU7.out.bel (hb8));have HE8:=hid (HE7.out.keep (hb8));have HV8:=hid (HV7.out.trans ((hb8).mono HV7.out.size));clear hb8 m0 m1 m2 m3 m4 z0 z1 y0 y1 n0 n1 n2 n3 n4)
      have HE9:=hid (HE8.keep ((Below.refl w8.heap.size w8).alloc lrf (.cells #[.int .i64 0,.int .i64 0] 39)))
      go_roundw
      case rel=>exact ⟨j+1,HLT.out,by first | (rw [wrap_next HLT.out (by have:=HFN.out;omega)]) | rfl,by rw [HSN.out];exact HE9.out,by rw [HSN.out];exact HFZ.out,HV8.alloc HV8.size _⟩
      case measure=>first | exact meas_next HLT.out (by have:=HFN.out;omega) | (have h1:=HLT.out;simp [intOf];omega)
    ·obtain rfl:j=p.funcs.length:=by omega
     obtain ⟨n0,n1,n2,n3,n4⟩:=HXj.c5
     obtain ⟨z0,z1,y0,y1⟩:=HZj.z2
     rw [List.drop_length] at hfu
     have HR6:=hid (show (if 1024<p.main.length then ((0,0),5) else match rbodyM p.chans T S true p.main [] with | some f=>f | none=>laterAll p)=r from by have h:=HR5.out;rw [<- hfu] at h;exact h)
     clear hlt hfu hbr hga hj HR5
     go_upto_region 35 with fail
     by_cases hk:1024<p.main.length
     ·have d1:decide ((1024:Int)<(p.main.length:Int))=true:=by simp;omega
      have HRR:=hid (show r=((0,0),5) from by rw [<- HR6.out,if_pos hk])
      clear hk
      go_wp2_with fail
      obtain ⟨d0,d1⟩:=pos_two HZj.out (.int .i64 0) (.int .i64 0)
      (try simp only [Exit.inBlock,Exit.then])
      refine bodyPost_ret (v := .tuple #[.agg #[.int .i64 0,.int .i64 0],.int .i64 5]) (by simp [results,Tryz.results51,go_sem,d0,d1]) rfl ?_
      have h9:=HRR.out
      subst h9
      have hfin:=fun v0 v1=>((HBj.out).setCell (p:=⟨w.heap.size+1,0,none⟩) (by show _<=_+1;omega) v0).setCell (p:=⟨w.heap.size+1,1,none⟩) (by show _<=_+1;omega) v1
      exact ⟨rfl,hfin _ _⟩
     have d1:decide ((1024:Int)<(p.main.length:Int))=false:=by simp;omega
     have HR7:=hid HR6.out
     rw [if_neg hk] at HR7
     clear hk HR6
     have HBC:=hid (rbody_any p _ _ _ _ p.funcs.length wj HGj.out lrf HL.out)
     have hba:bodyAt p p.funcs.length=p.main:=by unfold bodyAt;rw [dif_neg (by omega)]
     rw [hba,HT.out,HSD.out,decide_eq_true rfl] at HBC
     clear hba
     cases hrb:rbodyM p.chans T S true p.main [] with
     | some q =>
      obtain ⟨⟨q0,q1⟩,er⟩:=q
      have hne:(er != 0)=true:=by rw [bne_iff_ne];exact rb_code _ _ _ _ _ _ _ hrb
      have HRR:=hid (show r=((q0,q1),er) from by have h:=HR7.out;rw [hrb] at h;exact h.symm)
      have HCM:=hid (show Calls Tryz.prog 92 #[.agg #[.int .i64 p.width,.slice pa p.chans.length ca,.slice pb p.arrays.length cb,.slice pc p.funcs.length cc,.slice pd p.main.length cd],.int .i64 (p.funcs.length:Int)] wj (fun e w'=>e=.returned (.tuple #[.agg #[.int .i64 q0,.int .i64 q1],.int .i64 er])/\Below wj.heap.size wj w') from by have h:=HBC.out;rw [hrb] at h;exact h)
      clear hrb
      go_wp2_with (go_at_call 92;(with_reducible refine HCM.out.mono ?_);rintro e w8 ⟨rfl,hb8⟩;have HB8:=hid (HBj.out.trans ((hb8).mono HBj.out.size));have HX8:=hid (HXj.out.bel (hb8));have HZ8:=hid (HZj.out.bel (hb8));have HG8:=hid (HP.out.below HB8.out);clear hb8 n0 n1 n2 n3 n4 z0 z1 y0 y1;obtain ⟨z0,z1,y0,y1⟩:=HZ8.out.z2;obtain ⟨az0,az1,ay0,ay1⟩:=(HZ8.out.al (.cells #[.int .i64 q0,.int .i64 q1] 39)).z2)
      obtain ⟨d0,d1⟩:=pos_two (HZ8.al (.cells #[.int .i64 q0,.int .i64 q1] 39)) (.int .i64 q0) (.int .i64 q1)
      (try simp only [Exit.inBlock,Exit.then])
      refine bodyPost_ret (v := .tuple #[.agg #[.int .i64 q0,.int .i64 q1],.int .i64 er]) (by simp [results,Tryz.results51,go_sem,d0,d1]) rfl ?_
      have h9:=HRR.out
      subst h9
      have hfin:=fun v0 v1=>((HB8.alloc HB8.size (.cells #[.int .i64 q0,.int .i64 q1] 39)).setCell (p:=⟨w.heap.size+1,0,none⟩) (by show _<=_+1;omega) v0).setCell (p:=⟨w.heap.size+1,1,none⟩) (by show _<=_+1;omega) v1
      exact ⟨rfl,hfin _ _⟩
     | none =>
      have HRR:=hid (show laterAll p=r from by have h:=HR7.out;rw [hrb] at h;exact h)
      have HCM:=hid (show Calls Tryz.prog 92 #[.agg #[.int .i64 p.width,.slice pa p.chans.length ca,.slice pb p.arrays.length cb,.slice pc p.funcs.length cc,.slice pd p.main.length cd],.int .i64 (p.funcs.length:Int)] wj (fun e w'=>e=.returned (.tuple #[.agg #[.int .i64 0,.int .i64 0],.int .i64 0])/\Below wj.heap.size wj w') from by have h:=HBC.out;rw [hrb] at h;exact h)
      clear hrb
      go_upto_region 38 with (go_at_call 92;(with_reducible refine HCM.out.mono ?_);rintro e w8 ⟨rfl,hb8⟩;have HB8:=hid (HBj.out.trans ((hb8).mono HBj.out.size));have HX8:=hid (HXj.out.bel (hb8));have HZ8:=hid (HZj.out.bel (hb8));have HG8:=hid (HP.out.below HB8.out);clear hb8 n0 n1 n2 n3 n4 z0 z1 y0 y1)
      obtain ⟨w9,hw9⟩:∃ W,w8.alloc (.cells #[.int .i64 0,.int .i64 0] 39)=W:=⟨_,rfl⟩
      have hb9:Below w8.heap.size w8 w9:=by rw [<- hw9];exact bA
      rw [hw9]
      have HB9:=hid (HB8.trans ((hb9).mono HB8.size))
      have HX9:=hid (HX8.bel (hb9))
      have HZ9:=hid (HZ8.bel (hb9))
      have HG9:=hid (HP.below HB9.out)
      obtain ⟨n0,n1,n2,n3,n4⟩:=HX9.c5
      obtain ⟨z0,z1,y0,y1⟩:=HZ9.z2
      clear hb9 hw9
      have HLA:=hid (rlater_any p _ _ _ _ w9 HG9.out HL.out)
      rw [HRR.out] at HLA
      go_wp2_with (go_at_call 93;(with_reducible refine HLA.out.mono ?_);rintro e w10 ⟨rfl,hb10⟩;have HB10:=hid (HB9.out.trans ((hb10).mono HB9.out.size));have HX10:=hid (HX9.out.bel (hb10));have HZ10:=hid (HZ9.out.bel (hb10));have HG10:=hid (HP.out.below HB10.out);clear hb10 n0 n1 n2 n3 n4 z0 z1 y0 y1;obtain ⟨z0,z1,y0,y1⟩:=HZ10.out.z2)
      obtain ⟨d0,d1⟩:=pos_two HZ10.out (.int .i64 r.1.1) (.int .i64 r.1.2)
      (try simp only [Exit.inBlock,Exit.then])
      refine bodyPost_ret (v := .tuple #[.agg #[.int .i64 r.1.1,.int .i64 r.1.2],.int .i64 r.2]) (by simp [results,Tryz.results51,go_sem,d0,d1]) rfl ?_
      exact ⟨rfl,(HB10.setCell (p:=⟨w.heap.size+1,0,none⟩) (by show _<=_+1;omega) _).setCell (p:=⟨w.heap.size+1,1,none⟩) (by show _<=_+1;omega) _⟩
end Go.Proofs.YtoofbgoeipijcaaGreatDoor
