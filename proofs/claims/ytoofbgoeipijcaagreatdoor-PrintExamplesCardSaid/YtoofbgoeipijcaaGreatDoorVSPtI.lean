/-
 A part.
-/
import Derived.Test.YtoofbgoeipijcaaGreatDoorVB32
import Derived.Deep.CutBlock
namespace Go.Proofs.YtoofbgoeipijcaaGreatDoor
set_option linter.all false
open Go.RowKit Go.Shelf
attribute [local go_sem] Oper.semAt_some
abbrev inK (K:Int) (x:In) (av:Value):List Value:=[.int .u8 K,.int .u8 (x.op:Int),.string ⟨x.dst.toArray⟩,.string ⟨x.nm.toArray⟩,av,.int .i64 x.pos.1,.int .i64 x.pos.2]
theorem rbody_cons (chans arrays S:List Bs) (main:Bool) (x:In) (r:List In) (labels:List Bs):rbodyM chans arrays S main (x :: r) labels=match rstepM chans arrays S main labels x with | some f=>some f | none=>rbodyM chans arrays S main r (rlabel labels x):=rfl
theorem rs_all {chans arrays S labels:List Bs} {main:Bool} {x:In} {m:Nat} (h:S.take 32=S.take m):rstepM chans arrays S main labels x=if (!(formB x && !(main && decide (x.kind=12))))=true then some (x.pos,4) else if ((decide (x.kind=5) || decide (x.kind=6)) && !chans.contains x.nm)=true then some (x.pos,6) else if ((decide (x.kind=2) || decide (x.kind=3)) && !arrays.contains x.nm)=true then some (x.pos,6) else if (decide (x.kind=10) && labels.contains x.nm)=true then some (x.pos,8) else if (decide (x.kind=7) && !(S.take m).contains x.nm)=true then some (x.pos,5) else none:=by
 unfold rstepM
 rw [h]
 simp only [Bool.not_eq_true',Bool.and_eq_true,Bool.or_eq_true,decide_eq_true_eq]
theorem rl_yes (l:List Bs) {x:In} (h:x.kind=10):rlabel l x=l++[x.nm]:=by unfold rlabel;rw [if_pos h]
theorem rl_no (l:List Bs) {x:In} (h:x.kind ≠ 10):rlabel l x=l:=by unfold rlabel;rw [if_neg h]
theorem take_b32 (l:List Bs) (m:Nat) (h:min l.length 32=m):l.take 32=l.take m:=by
 by_cases h2:32<=l.length
 ·rw [show m=32 by omega]
 ·rw [List.take_of_length_le (by omega),List.take_of_length_le (by omega)]
theorem pos_two {W:World} {b:Nat} {u0 u1:Value} {t:TypeId} (h:BxL t b [u0,u1] W) (v0 v1:Value) :
  ((W.setCell ⟨b,0,none⟩ v0).setCell ⟨b,1,none⟩ v1).cell? ⟨b,0,none⟩=some v0/\((W.setCell ⟨b,0,none⟩ v0).setCell ⟨b,1,none⟩ v1).cell? ⟨b,1,none⟩=some v1:=by
 have h2:=(h.set 0 v0).set 1 v1
 exact ⟨h2.at 0 rfl,h2.at 1 rfl⟩
theorem BxL.c5 {t:TypeId} {b:Nat} {a0 a1 a2 a3 a4:Value} {W:World} (h:BxL t b [a0,a1,a2,a3,a4] W):W.cell? ⟨b,0,none⟩=some a0/\W.cell? ⟨b,1,none⟩=some a1/\W.cell? ⟨b,2,none⟩=some a2/\W.cell? ⟨b,3,none⟩=some a3/\W.cell? ⟨b,4,none⟩=some a4 :=
 ⟨h.at 0 rfl,h.at 1 rfl,h.at 2 rfl,h.at 3 rfl,h.at 4 rfl⟩
theorem BxL.c7 {t:TypeId} {b:Nat} {a0 a1 a2 a3 a4 a5 a6:Value} {W:World} (h:BxL t b [a0,a1,a2,a3,a4,a5,a6] W):W.cell? ⟨b,0,none⟩=some a0/\W.cell? ⟨b,1,none⟩=some a1/\W.cell? ⟨b,2,none⟩=some a2/\W.cell? ⟨b,3,none⟩=some a3/\W.cell? ⟨b,4,none⟩=some a4/\W.cell? ⟨b,5,none⟩=some a5/\W.cell? ⟨b,6,none⟩=some a6 :=
 ⟨h.at 0 rfl,h.at 1 rfl,h.at 2 rfl,h.at 3 rfl,h.at 4 rfl,h.at 5 rfl,h.at 6 rfl⟩
theorem BxL.z2 {t:TypeId} {b:Nat} {a0 a1:Value} {W:World} (h:BxL t b [a0,a1] W):W.cell? ⟨b,0,none⟩=some a0/\W.cell? ⟨b,1,none⟩=some a1/\W.frozen? ⟨b,0,none⟩=false/\W.frozen? ⟨b,1,none⟩=false :=
 ⟨h.at 0 rfl,h.at 1 rfl,h.fr 0,h.fr 1⟩
structure RLen (p:Pg):Prop where
 funcs:p.funcs.length<=1000000
 all:(codes p.funcs++p.main).length<=1000000
 arrays:p.arrays.length<=1000000000000
 chans:∀ s ∈ p.chans,s.length<=140737488355328
 arrs:∀ a ∈ p.arrays,a.nm.length<=140737488355328
 each:∀ f ∈ p.funcs,f.nm.length<=140737488355328/\∀ s ∈ f.params,s.length<=140737488355328
 ins:∀ i,∀ x ∈ bodyAt p i,x.op<=255/\x.dst.length<=140737488355328/\x.nm.length<=140737488355328/\∀ a ∈ x.args,a.nm.length<=140737488355328
theorem RLen.sites {p:Pg} (h:RLen p):(sitesP p).length<=1000000:=by
 have h1:=sites_len (codes p.funcs++p.main) []
 have h2:=h.all
 unfold sitesP
 simp only [List.length_nil] at h1
 omega
theorem allC_sub (p:Pg) (i n:Nat) (h:i<n):(bodyAt p i).length<=(allC p n).length:=by
 induction n with
 | zero=>omega
 | succ n ih =>
  rw [allC_next,List.length_append]
  by_cases e:i=n
  ·rw [e];omega
  ·have:=ih (by omega);omega
theorem RLen.body {p:Pg} (h:RLen p) (i:Nat) (hi:i<=p.funcs.length):(bodyAt p i).length<=1000000:=by
 have h1:=allC_sub p i (p.funcs.length+1) (by omega)
 rw [allC_all] at h1
 have:=h.all
 omega
set_option maxRecDepth 100000 in
set_option maxHeartbeats 16000000 in
theorem rbody_any (p:Pg) (a b c d:Value) (i:Nat) (w:World) (hp:PgV (·<w.heap.size) w a b c d p) (hi:i<=p.funcs.length) (hl:RLen p) :
  Calls Tryz.prog 92 #[.agg #[.int .i64 p.width,a,b,c,d],.int .i64 (i:Int)] w fun e w'=>e=.returned (.tuple #[posV (((rbodyM p.chans (p.arrays.map Ar.nm) (sitesP p) (decide (i=p.funcs.length)) (bodyAt p i) []).getD ((0,0),0)).1),.int .i64 ((rbodyM p.chans (p.arrays.map Ar.nm) (sitesP p) (decide (i=p.funcs.length)) (bodyAt p i) []).getD ((0,0),0)).2])/\Below w.heap.size w w':=by
 obtain ⟨pa,ca,hva⟩:=hp.1.slc
 obtain ⟨pb,cb,hvb⟩:=hp.2.1.slc
 obtain ⟨pc,cc,hvc⟩:=hp.2.2.1.slc
 obtain ⟨pd,cd,hvd⟩:=hp.2.2.2.slc
 subst hva hvb hvc hvd
 have HP:=hid hp
 have HL:=hid hl;have HI:=hid hi
 obtain ⟨S,hS⟩:∃ S,sitesP p=S:=⟨_,rfl⟩
 obtain ⟨code,hcode⟩:∃ L,bodyAt p i=L:=⟨_,rfl⟩
 obtain ⟨r,hr⟩:∃ r,(rbodyM p.chans (p.arrays.map Ar.nm) S (decide (i=p.funcs.length)) code []).getD ((0,0),0)=r:=⟨_,rfl⟩
 have HSL:=hid (show S.length<=1000000 from by rw [<- hS];exact hl.sites)
 have HCL:=hid (show code.length<=1000000 from by rw [<- hcode];exact hl.body i hi)
 have HIN:=hid (show ∀ x ∈ code,x.op<=255/\x.dst.length<=140737488355328/\x.nm.length<=140737488355328/\∀ a ∈ x.args,a.nm.length<=140737488355328 from by rw [<- hcode];exact hl.ins i)
 rw [hS,hcode,hr]
 have HR:=hid hr;have HSD:=hid hS;have HCD:=hid hcode
 clear hp hl hi hr hS hcode
 obtain ⟨wo,hwo⟩:∃ W,(w.alloc (.cells #[.int .i64 p.width,.slice pa p.chans.length ca,.slice pb p.arrays.length cb,.slice pc p.funcs.length cc,.slice pd p.main.length cd] 27)).alloc (.cells #[.int .i64 0,.int .i64 0] 39)=W:=⟨_,rfl⟩
 have HWO:=hid hwo
 have HXo:=hid (show BxL 27 w.heap.size [.int .i64 p.width,.slice pa p.chans.length ca,.slice pb p.arrays.length cb,.slice pc p.funcs.length cc,.slice pd p.main.length cd] wo from by rw [<- hwo];exact (BxL.new _ _ _).al _)
 have HZo:=hid (show BxL 39 (w.heap.size+1) [.int .i64 0,.int .i64 0] wo from by rw [<- hwo];have h:=BxL.new 39 (w.alloc (.cells #[.int .i64 p.width,.slice pa p.chans.length ca,.slice pb p.arrays.length cb,.slice pc p.funcs.length cc,.slice pd p.main.length cd] 27)) [.int .i64 0,.int .i64 0];rwa [sA] at h)
 have HBO:=hid (show Below w.heap.size w wo from by rw [<- hwo];exact (bA).alloc (by rw [sA];omega) _)
 have HGO:=hid (show PgV (·<wo.heap.size) wo (.slice pa p.chans.length ca) (.slice pb p.arrays.length cb) (.slice pc p.funcs.length cc) (.slice pd p.main.length cd) p from HP.below HBO.out)
 clear hwo
 obtain ⟨n0,n1,n2,n3,n4⟩:=HXo.c5
 go_enter Tryz.func92,Tryz.ntmps92
 go_upto_region 1 with fail
 rw [HWO.out]
 go_wp2_with (first
  | (go_at_call 133;(refine (rsites_any p _ _ _ _ _ HGO.out HL.out.funcs HL.out.all).mono ?_);rintro e w1 ⟨v1,rfl,hs,hb1⟩;rw [HSD.out] at hs;obtain ⟨ps,cs,rfl⟩:=hs.slc;have HB1:=hid (HBO.out.trans (hb1.mono HBO.out.size));have HS1:=hid (hs.slw (by have:=HSL.out;omega));have HX1:=hid (HXo.out.bel hb1);have HZ1:=hid (HZo.out.bel hb1);have HG1:=hid (HGO.out.below hb1);clear hs hb1 n0 n1 n2 n3 n4;obtain ⟨n0,n1,n2,n3,n4⟩:=HX1.out.c5)
  | (go_at_call 134;(refine (rbodyat_any p _ _ _ _ i _ _ HG1.out (fun _ h=>h)).mono ?_);rintro e w2 ⟨v2,rfl,hs,hb2⟩;rw [HCD.out] at hs;obtain ⟨pk,ck,rfl⟩:=hs.slc;have HB2:=hid (HB1.out.trans (hb2.mono HB1.out.size));have HC2:=hid (hs.weaken fun k hk=>Nat.lt_of_lt_of_le hk hb2.size:SlG kIn (·<w2.heap.size) w2 (.slice pk code.length ck) code);have HS2:=hid (HS1.out.below hb2);have HX2:=hid (HX1.out.bel hb2);have HZ2:=hid (HZ1.out.bel hb2);have HG2:=hid (HG1.out.below hb2);clear hs hb2 n0 n1 n2 n3 n4))
 obtain ⟨m,hm⟩:∃ m,min S.length 32=m:=⟨_,rfl⟩
 have HMM:=hid (take_b32 S m hm)
 have HM1:=hid (show m<=S.length from by omega)
 have HMN:=hid (show min (S.length:Int) 32=(m:Int) from by omega)
 have HMC:=hid (show m<=cs from by have:=HS2.cap;omega)
 clear hm
 go_loopw [6,9,10] (fun lv iv u10 wr=>∃ (k:Nat) (lb:List Bs),k<=code.length/\iv=.int .i64 (k:Int)/\GA kStr w2.heap.size 9 wr lv lb/\lb.length<=k/\rbodyM p.chans (p.arrays.map Ar.nm) S (decide (i=p.funcs.length)) (code.drop k) lb=rbodyM p.chans (p.arrays.map Ar.nm) S (decide (i=p.funcs.length)) code []/\Below w2.heap.size w2 wr) (fun _ iv _ _=>code.length - (intOf iv).toNat)
 case atStart=>exact ⟨0,[],Nat.zero_le _,rfl,GA.nil _ _ _ _,Nat.le_refl _,by rw [List.drop_zero],Below.refl _ _⟩
 case round =>
  obtain ⟨k,lb,hk,rfl,hga,hlb,hc,hbr⟩:=hrel
  obtain ⟨po,co,rfl⟩:=hga.slc
  have HLB:=hid hlb
  by_cases hlt:k<code.length
  ·obtain ⟨b,off,rfl,hRb,hcells⟩:=in_at HC2.out (by omega:0<code.length)
   obtain ⟨pi,ci,hargs,q0,q1,q2,q3,q4,q5,q6⟩:=hcells k hlt
   replace q0:=(hbr.cell (p:=⟨b,off+k*7,none⟩) hRb).trans q0
   replace q1:=(hbr.cell (p:=⟨b,off+k*7+1,none⟩) hRb).trans q1
   replace q2:=(hbr.cell (p:=⟨b,off+k*7+2,none⟩) hRb).trans q2
   replace q3:=(hbr.cell (p:=⟨b,off+k*7+3,none⟩) hRb).trans q3
   replace q4:=(hbr.cell (p:=⟨b,off+k*7+4,none⟩) hRb).trans q4
   replace q5:=(hbr.cell (p:=⟨b,off+k*7+5,none⟩) hRb).trans q5
   replace q6:=(hbr.cell (p:=⟨b,off+k*7+6,none⟩) hRb).trans q6
   rw [List.drop_eq_getElem_cons hlt,rbody_cons] at hc
   have HIX:=hid (HIN.out _ (List.getElem_mem hlt))
   have HLT:=hid hlt;have HBr:=hid hbr;have HGr:=hid hga;have HAR0:=hid hargs
   have HXr:=hid (HX2.bel hbr);have HZr:=hid (HZ2.bel hbr)
   clear hcells hargs hRb hbr hga hlb
   generalize code[k]=x at *
   clear hlt
   have HRF:=hid (show ∀ g,rstepM p.chans (p.arrays.map Ar.nm) S (decide (i=p.funcs.length)) lb x=some g->r=g from fun g e=>by rw [e] at hc;rw [<- HR.out,<- hc];rfl)
   have HRN:=hid (show rstepM p.chans (p.arrays.map Ar.nm) S (decide (i=p.funcs.length)) lb x=none->rbodyM p.chans (p.arrays.map Ar.nm) S (decide (i=p.funcs.length)) (code.drop (k+1)) (rlabel lb x)=rbodyM p.chans (p.arrays.map Ar.nm) S (decide (i=p.funcs.length)) code [] from fun e=>by rw [e] at hc;exact hc)
   clear hc
   go_upto_block 2 with fail
   obtain ⟨wx,hwx⟩:∃ W,wr.alloc (.cells #[.int .u8 (x.kind:Int),.int .u8 (x.op:Int),.string ⟨x.dst.toArray⟩,.string ⟨x.nm.toArray⟩,.slice pi x.args.length ci,.int .i64 x.pos.1,.int .i64 x.pos.2] 41)=W:=⟨_,rfl⟩
   have hbx:Below wr.heap.size wr wx:=by rw [<- hwx];exact bA
   have HUx:=hid (show BxL 41 wr.heap.size (inK (x.kind:Int) x (.slice pi x.args.length ci)) wx from by rw [<- hwx];exact BxL.new _ _ _)
   rw [hwx]
   have HBx:=hid (HBr.trans (hbx.mono HBr.size));have HXx:=hid (HXr.bel hbx);have HZx:=hid (HZr.bel hbx);have HGx:=hid (HGr.keep hbx)
   have HAR:=hid (show SlG kAg (·<wx.heap.size) wx (.slice pi x.args.length ci) x.args from HAR0.keep fun j hj=>⟨Nat.lt_of_lt_of_le hj HBx.size,HBx.block j hj⟩)
   clear hwx hbx q0 q1 q2 q3 q4 q5 q6
   go_cut [] (fun wy=>rstepM p.chans (p.arrays.map Ar.nm) S (decide (i=p.funcs.length)) lb x=none/\BxL 41 wr.heap.size (inK (x.kind:Int) x (.slice pi x.args.length ci)) wy/\GA kStr w2.heap.size 9 wy (.slice po lb.length co) lb/\Below w2.heap.size w2 wy)
   case first =>
    have HFM0:=hid (rform_any x (.slice pi x.args.length ci) wx HIX.1 HIX.2.1 HIX.2.2.1 HIX.2.2.2 HAR.out)
    obtain ⟨T,hT⟩:∃ T,p.arrays.map Ar.nm=T:=⟨_,rfl⟩
    have HTT:=hid hT
    have HRS:=hid (rs_all (chans:=p.chans) (arrays:=T) (S:=S) (main:=decide (i=p.funcs.length)) (labels:=lb) (x:=x) (m:=m) HMM.out)
    rw [hT] at HRF
    clear hT
    go_upto_region 8 with fail
    go_cut [26] (fun s26 wy=>s26=.bool (!(formB x && !(decide (i=p.funcs.length) && decide (x.kind=12))))/\BxL 41 wr.heap.size (inK (x.kind:Int) x (.slice pi x.args.length ci)) wy/\GA kStr w2.heap.size 9 wy (.slice po lb.length co) lb/\Below w2.heap.size w2 wy)
    case first =>
     cases hfb:formB x with
     | false =>
      have HFB:=hid hfb
      clear hfb
      have HVx:=HUx
      have HFM:=HFM0
      obtain ⟨n0,n1,n2,n3,n4⟩:=HXx.c5
      obtain ⟨m0,m1,m2,m3,m4,m5,m6⟩:=HUx.c7
      obtain ⟨z0,z1,y0,y1⟩:=HZx.z2
      go_wp2_with (go_at_call 96;(with_reducible refine HFM.out.mono ?_);rintro e w3 ⟨rfl,hb3⟩;rw [HFB.out];have HB3:=hid (HBx.out.trans ((hb3).mono HBx.out.size));have HX3:=hid (HXx.out.bel (hb3));have HZ3:=hid (HZx.out.bel (hb3));have HU3:=hid (HUx.out.bel (hb3));have HG3:=hid (HGx.out.keep (hb3));have HW3:=hid (HVx.out.bel hb3);clear hb3 n0 n1 n2 n3 n4 m0 m1 m2 m3 m4 m5 m6 z0 z1 y0 y1;obtain ⟨n0,n1,n2,n3,n4⟩:=HX3.out.c5;obtain ⟨m0,m1,m2,m3,m4,m5,m6⟩:=HU3.out.c7;obtain ⟨z0,z1,y0,y1⟩:=HZ3.out.z2)
      go_meet
      case rel=>exact ⟨by show Value.bool _=Value.bool (!(formB x && !(decide (i=p.funcs.length) && decide (x.kind=12))));simp [HFB.out],HW3.out,HG3.out,HB3.out⟩
     | true =>
      have HFB:=hid hfb
      clear hfb
      by_cases hkd:x.kind=12
      ·have HKF:=hid hkd
       by_cases him:i=p.funcs.length
       ·have HIM:=hid him
        have hwm:((i:Int) == (p.funcs.length:Int))=true:=by rw [beq_iff_eq];omega
        clear him
        have hkI:(x.kind:Int)=12:=by omega
        have HVx:=HUx
        replace HUx:=hid (show BxL 41 wr.heap.size (inK 12 x (.slice pi x.args.length ci)) wx from by have h:=HUx.out;rw [hkI] at h;exact h)
        have HFM:=hid (show Calls Tryz.prog 96 #[.agg #[.int .u8 12,.int .u8 (x.op:Int),.string ⟨x.dst.toArray⟩,.string ⟨x.nm.toArray⟩,.slice pi x.args.length ci,.int .i64 x.pos.1,.int .i64 x.pos.2]] wx (fun e w'=>e=.returned (.bool (formB x))/\Below wx.heap.size wx w') from by have h:=HFM0.out;rw [hkI] at h;exact h)
        clear hkI
        obtain ⟨n0,n1,n2,n3,n4⟩:=HXx.c5
        obtain ⟨m0,m1,m2,m3,m4,m5,m6⟩:=HUx.c7
        obtain ⟨z0,z1,y0,y1⟩:=HZx.z2
        clear hkd
        go_wp2_with (go_at_call 96;(with_reducible refine HFM.out.mono ?_);rintro e w3 ⟨rfl,hb3⟩;rw [HFB.out];have HB3:=hid (HBx.out.trans ((hb3).mono HBx.out.size));have HX3:=hid (HXx.out.bel (hb3));have HZ3:=hid (HZx.out.bel (hb3));have HU3:=hid (HUx.out.bel (hb3));have HG3:=hid (HGx.out.keep (hb3));have HW3:=hid (HVx.out.bel hb3);clear hb3 n0 n1 n2 n3 n4 m0 m1 m2 m3 m4 m5 m6 z0 z1 y0 y1;obtain ⟨n0,n1,n2,n3,n4⟩:=HX3.out.c5;obtain ⟨m0,m1,m2,m3,m4,m5,m6⟩:=HU3.out.c7;obtain ⟨z0,z1,y0,y1⟩:=HZ3.out.z2)
        go_meet
        case rel=>exact ⟨by show Value.bool _=Value.bool (!(formB x && !(decide (i=p.funcs.length) && decide (x.kind=12))));simp [HFB.out,HKF.out,HIM.out],HW3.out,HG3.out,HB3.out⟩
       ·have HIM:=hid him
        have hwm:((i:Int) == (p.funcs.length:Int))=false:=by rw [beq_eq_false_iff_ne];omega
        clear him
        have hkI:(x.kind:Int)=12:=by omega
        have HVx:=HUx
        replace HUx:=hid (show BxL 41 wr.heap.size (inK 12 x (.slice pi x.args.length ci)) wx from by have h:=HUx.out;rw [hkI] at h;exact h)
        have HFM:=hid (show Calls Tryz.prog 96 #[.agg #[.int .u8 12,.int .u8 (x.op:Int),.string ⟨x.dst.toArray⟩,.string ⟨x.nm.toArray⟩,.slice pi x.args.length ci,.int .i64 x.pos.1,.int .i64 x.pos.2]] wx (fun e w'=>e=.returned (.bool (formB x))/\Below wx.heap.size wx w') from by have h:=HFM0.out;rw [hkI] at h;exact h)
        clear hkI
        obtain ⟨n0,n1,n2,n3,n4⟩:=HXx.c5
        obtain ⟨m0,m1,m2,m3,m4,m5,m6⟩:=HUx.c7
        obtain ⟨z0,z1,y0,y1⟩:=HZx.z2
        clear hkd
        go_wp2_with (go_at_call 96;(with_reducible refine HFM.out.mono ?_);rintro e w3 ⟨rfl,hb3⟩;rw [HFB.out];have HB3:=hid (HBx.out.trans ((hb3).mono HBx.out.size));have HX3:=hid (HXx.out.bel (hb3));have HZ3:=hid (HZx.out.bel (hb3));have HU3:=hid (HUx.out.bel (hb3));have HG3:=hid (HGx.out.keep (hb3));have HW3:=hid (HVx.out.bel hb3);clear hb3 n0 n1 n2 n3 n4 m0 m1 m2 m3 m4 m5 m6 z0 z1 y0 y1;obtain ⟨n0,n1,n2,n3,n4⟩:=HX3.out.c5;obtain ⟨m0,m1,m2,m3,m4,m5,m6⟩:=HU3.out.c7;obtain ⟨z0,z1,y0,y1⟩:=HZ3.out.z2)
        go_meet
        case rel=>exact ⟨by show Value.bool _=Value.bool (!(formB x && !(decide (i=p.funcs.length) && decide (x.kind=12))));simp [HFB.out,HKF.out,HIM.out],HW3.out,HG3.out,HB3.out⟩
      ·have HKF:=hid hkd
       have t12:((x.kind:Int) == 12)=false:=by rw [beq_eq_false_iff_ne];omega
       clear hkd
       have HVx:=HUx
       have HFM:=HFM0
       obtain ⟨n0,n1,n2,n3,n4⟩:=HXx.c5
       obtain ⟨m0,m1,m2,m3,m4,m5,m6⟩:=HUx.c7
       obtain ⟨z0,z1,y0,y1⟩:=HZx.z2
       go_wp2_with (go_at_call 96;(with_reducible refine HFM.out.mono ?_);rintro e w3 ⟨rfl,hb3⟩;rw [HFB.out];have HB3:=hid (HBx.out.trans ((hb3).mono HBx.out.size));have HX3:=hid (HXx.out.bel (hb3));have HZ3:=hid (HZx.out.bel (hb3));have HU3:=hid (HUx.out.bel (hb3));have HG3:=hid (HGx.out.keep (hb3));have HW3:=hid (HVx.out.bel hb3);clear hb3 n0 n1 n2 n3 n4 m0 m1 m2 m3 m4 m5 m6 z0 z1 y0 y1;obtain ⟨n0,n1,n2,n3,n4⟩:=HX3.out.c5;obtain ⟨m0,m1,m2,m3,m4,m5,m6⟩:=HU3.out.c7;obtain ⟨z0,z1,y0,y1⟩:=HZ3.out.z2)
       go_meet
       case rel=>exact ⟨by show Value.bool _=Value.bool (!(formB x && !(decide (i=p.funcs.length) && decide (x.kind=12))));simp [HFB.out,HKF.out],HW3.out,HG3.out,HB3.out⟩
    case rest =>
    obtain ⟨hs1,hu1,hg1,hb1⟩:=hcut
    subst hs1
    obtain ⟨wa,rfl⟩:∃ W:World,W=wc:=⟨_,rfl⟩
    have HUa:=hid hu1;have HGa:=hid hg1;have HBa:=hid hb1
    have HXa:=hid (HX2.bel hb1);have HZa:=hid (HZ2.bel hb1)
    clear hu1 hg1 hb1
    by_cases hbo:(!(formB x && !(decide (i=p.funcs.length) && decide (x.kind=12))))=true
    ·have HN1:=hid hbo
     rw [hbo]
     clear hbo
     have HRR:=hid (HRF.out (x.pos,4) (by rw [HRS.out];simp only [HN1.out,if_true,Bool.false_eq_true,if_false]))
     obtain ⟨n0,n1,n2,n3,n4⟩:=HXa.c5
     obtain ⟨m0,m1,m2,m3,m4,m5,m6⟩:=HUa.c7
     obtain ⟨z0,z1,y0,y1⟩:=HZa.z2
     go_wp2_with fail
     obtain ⟨d0,d1⟩:=pos_two HZa.out (.int .i64 x.pos.1) (.int .i64 x.pos.2)
     (try simp only [Exit.inBlock,Exit.then])
     refine bodyPost_ret (v := .tuple #[.agg #[.int .i64 x.pos.1,.int .i64 x.pos.2],.int .i64 4]) (by simp [results,Tryz.results92,go_sem,d0,d1]) rfl ?_
     have h9:=HRR.out
     subst h9
     have hfin:=fun v0 v1=>((HB2.trans (HBa.mono HB2.size)).setCell (p:=⟨w.heap.size+1,0,none⟩) (by show _<=_+1;omega) v0).setCell (p:=⟨w.heap.size+1,1,none⟩) (by show _<=_+1;omega) v1
     first | exact ⟨rfl,hfin _ _⟩ | exact ⟨rfl,(hfin _ _).drew⟩ | exact ⟨rfl,(hfin _ _).drew.drew⟩
    have HN1:=hid (show (!(formB x && !(decide (i=p.funcs.length) && decide (x.kind=12))))=false from by simpa using hbo)
    rw [HN1.out]
    clear hbo
    go_upto_region 10 with fail
    go_cut [44] (fun s44 wy=>s44=.bool ((decide (x.kind=5) || decide (x.kind=6)) && !p.chans.contains x.nm)/\BxL 41 wr.heap.size (inK (x.kind:Int) x (.slice pi x.args.length ci)) wy/\GA kStr w2.heap.size 9 wy (.slice po lb.length co) lb/\Below w2.heap.size w2 wy)
    case first =>
     obtain ⟨bc,hbc⟩:∃ b,p.chans.contains x.nm=b:=⟨_,rfl⟩
     have HCC:=hid hbc
     clear hbc
     have HCH:=hid (HG2.1.keep fun k hk=>⟨hk,HBa.block k hk⟩:SlG kStr (·<w2.heap.size) wa _ _)
     rcases (show x.kind=5\/x.kind=6\/(x.kind ≠ 5/\x.kind ≠ 6) by omega) with hkd | hkd | hkd
     ·have HKF:=hid hkd
      have hkI:(x.kind:Int)=5:=by omega
      have HVa:=HUa
      replace HUa:=hid (show BxL 41 wr.heap.size (inK 5 x (.slice pi x.args.length ci)) wa from by have h:=HUa.out;rw [hkI] at h;exact h)
      clear hkI
      obtain ⟨n0,n1,n2,n3,n4⟩:=HXa.c5
      obtain ⟨m0,m1,m2,m3,m4,m5,m6⟩:=HUa.c7
      obtain ⟨z0,z1,y0,y1⟩:=HZa.z2
      clear hkd
      go_wp2_with (go_at_call 132;(with_reducible refine (ris_any p.chans x.nm _ _ wa HCH.out).mono ?_);rintro e wa ⟨rfl,rfl⟩;rw [HCC.out])
      go_meet
      case rel=>exact ⟨by show Value.bool _=Value.bool ((decide (x.kind=5) || decide (x.kind=6)) && !p.chans.contains x.nm);rw [HCC.out];simp [HKF.out],HVa.out,HGa.out,HBa.out⟩
     ·have HKF:=hid hkd
      have hkI:(x.kind:Int)=6:=by omega
      have HVa:=HUa
      replace HUa:=hid (show BxL 41 wr.heap.size (inK 6 x (.slice pi x.args.length ci)) wa from by have h:=HUa.out;rw [hkI] at h;exact h)
      clear hkI
      obtain ⟨n0,n1,n2,n3,n4⟩:=HXa.c5
      obtain ⟨m0,m1,m2,m3,m4,m5,m6⟩:=HUa.c7
      obtain ⟨z0,z1,y0,y1⟩:=HZa.z2
      clear hkd
      go_wp2_with (go_at_call 132;(with_reducible refine (ris_any p.chans x.nm _ _ wa HCH.out).mono ?_);rintro e wa ⟨rfl,rfl⟩;rw [HCC.out])
      go_meet
      case rel=>exact ⟨by show Value.bool _=Value.bool ((decide (x.kind=5) || decide (x.kind=6)) && !p.chans.contains x.nm);rw [HCC.out];simp [HKF.out],HVa.out,HGa.out,HBa.out⟩
     ·have HKF:=hid hkd
      have t5:((x.kind:Int) == 5)=false:=by rw [beq_eq_false_iff_ne];omega
      have t6:((x.kind:Int) == 6)=false:=by rw [beq_eq_false_iff_ne];omega
      have HVa:=HUa
      obtain ⟨n0,n1,n2,n3,n4⟩:=HXa.c5
      obtain ⟨m0,m1,m2,m3,m4,m5,m6⟩:=HUa.c7
      obtain ⟨z0,z1,y0,y1⟩:=HZa.z2
      clear hkd
      go_wp2_with (go_at_call 132;(with_reducible refine (ris_any p.chans x.nm _ _ wa HCH.out).mono ?_);rintro e wa ⟨rfl,rfl⟩;rw [HCC.out])
      go_meet
      case rel=>exact ⟨by show Value.bool _=Value.bool ((decide (x.kind=5) || decide (x.kind=6)) && !p.chans.contains x.nm);rw [HCC.out];simp [HKF.1,HKF.2],HVa.out,HGa.out,HBa.out⟩
    case rest =>
    obtain ⟨hs1,hu1,hg1,hb1⟩:=hcut
    subst hs1
    obtain ⟨wb,rfl⟩:∃ W:World,W=wc:=⟨_,rfl⟩
    have HUb:=hid hu1;have HGb:=hid hg1;have HBb:=hid hb1
    have HXb:=hid (HX2.bel hb1);have HZb:=hid (HZ2.bel hb1)
    clear hu1 hg1 hb1
    by_cases hbo:((decide (x.kind=5) || decide (x.kind=6)) && !p.chans.contains x.nm)=true
    ·have HN2:=hid hbo
     rw [hbo]
     clear hbo
     have HRR:=hid (HRF.out (x.pos,6) (by rw [HRS.out];simp only [HN1.out,HN2.out,if_true,Bool.false_eq_true,if_false]))
     obtain ⟨n0,n1,n2,n3,n4⟩:=HXb.c5
     obtain ⟨m0,m1,m2,m3,m4,m5,m6⟩:=HUb.c7
     obtain ⟨z0,z1,y0,y1⟩:=HZb.z2
     go_wp2_with fail
     obtain ⟨d0,d1⟩:=pos_two HZb.out (.int .i64 x.pos.1) (.int .i64 x.pos.2)
     (try simp only [Exit.inBlock,Exit.then])
     refine bodyPost_ret (v := .tuple #[.agg #[.int .i64 x.pos.1,.int .i64 x.pos.2],.int .i64 6]) (by simp [results,Tryz.results92,go_sem,d0,d1]) rfl ?_
     have h9:=HRR.out
     subst h9
     have hfin:=fun v0 v1=>((HB2.trans (HBb.mono HB2.size)).setCell (p:=⟨w.heap.size+1,0,none⟩) (by show _<=_+1;omega) v0).setCell (p:=⟨w.heap.size+1,1,none⟩) (by show _<=_+1;omega) v1
     first | exact ⟨rfl,hfin _ _⟩ | exact ⟨rfl,(hfin _ _).drew⟩ | exact ⟨rfl,(hfin _ _).drew.drew⟩
    have HN2:=hid (show ((decide (x.kind=5) || decide (x.kind=6)) && !p.chans.contains x.nm)=false from by simpa using hbo)
    rw [HN2.out]
    clear hbo
    go_upto_region 12 with fail
    go_cut [63] (fun s63 wy=>s63=.bool ((decide (x.kind=2) || decide (x.kind=3)) && !T.contains x.nm)/\BxL 41 wr.heap.size (inK (x.kind:Int) x (.slice pi x.args.length ci)) wy/\GA kStr w2.heap.size 9 wy (.slice po lb.length co) lb/\Below w2.heap.size w2 wy)
    case first =>
     obtain ⟨bc,hbc⟩:∃ b,T.contains x.nm=b:=⟨_,rfl⟩
     have HCC:=hid hbc
     clear hbc
     rcases (show x.kind=2\/x.kind=3\/(x.kind ≠ 2/\x.kind ≠ 3) by omega) with hkd | hkd | hkd
     ·have HKF:=hid hkd
      have hkI:(x.kind:Int)=2:=by omega
      have HVb:=HUb
      replace HUb:=hid (show BxL 41 wr.heap.size (inK 2 x (.slice pi x.args.length ci)) wb from by have h:=HUb.out;rw [hkI] at h;exact h)
      clear hkI
      clear hkd
      have HB4:=hid (HBb.trans (((Below.refl _ _).drew:Below wb.heap.size wb wb.drew).mono HBb.size));have HX4:=hid (HXb.bel ((Below.refl _ _).drew:Below wb.heap.size wb wb.drew));have HZ4:=hid (HZb.bel ((Below.refl _ _).drew:Below wb.heap.size wb wb.drew));have HU4:=hid (HUb.bel ((Below.refl _ _).drew:Below wb.heap.size wb wb.drew));have HG4:=hid (HGb.keep ((Below.refl _ _).drew:Below wb.heap.size wb wb.drew))
      have HW4:=hid (HVb.bel (Below.refl _ _).drew)
      have HPG4:=hid (show PgV (·<wb.drew.heap.size) wb.drew (.slice pa p.chans.length ca) (.slice pb p.arrays.length cb) (.slice pc p.funcs.length cc) (.slice pd p.main.length cd) p from HG2.keep fun k hk=>⟨Nat.lt_of_lt_of_le hk HB4.size,HB4.block k hk⟩)
      have hS:(fun W=>W.cell? ⟨w.heap.size,0,none⟩=some (.int .i64 p.width)/\W.cell? ⟨w.heap.size,1,none⟩=some (.slice pa p.chans.length ca)/\W.cell? ⟨w.heap.size,2,none⟩=some (.slice pb p.arrays.length cb)/\W.cell? ⟨w.heap.size,3,none⟩=some (.slice pc p.funcs.length cc)/\W.cell? ⟨w.heap.size,4,none⟩=some (.slice pd p.main.length cd)/\W.cell? ⟨wr.heap.size,0,none⟩=some (.int .u8 2)/\W.cell? ⟨wr.heap.size,3,none⟩=some (.string ⟨x.nm.toArray⟩)) wb.drew:=⟨HX4.at 0 rfl,HX4.at 1 rfl,HX4.at 2 rfl,HX4.at 3 rfl,HX4.at 4 rfl,HU4.at 0 rfl,HU4.at 3 rfl⟩
      have hFa:=fT
      refine rgN (fun W=>W.cell? ⟨w.heap.size,0,none⟩=some (.int .i64 p.width)/\W.cell? ⟨w.heap.size,1,none⟩=some (.slice pa p.chans.length ca)/\W.cell? ⟨w.heap.size,2,none⟩=some (.slice pb p.arrays.length cb)/\W.cell? ⟨w.heap.size,3,none⟩=some (.slice pc p.funcs.length cc)/\W.cell? ⟨w.heap.size,4,none⟩=some (.slice pd p.main.length cd)/\W.cell? ⟨wr.heap.size,0,none⟩=some (.int .u8 2)/\W.cell? ⟨wr.heap.size,3,none⟩=some (.string ⟨x.nm.toArray⟩)) 13 (by kernel_rfl) ?_
      simp only [zP,Nat.reduceAdd]
      refine wpHJ_pure (v:=?v0) 0 hFa rfl (by kernel_rfl) nE (Or.inl ⟨by rfl,?y0⟩) (.inr hS) ?r0
      case y0=>(intro w' _;go_simp;try rfl)
      simp only [aP]
      refine oy 1 fun K hK=>?_
      go_simp
      refine hK _ _ (.inr (.inr hS)) ?_
      clear hK K
      iterate 7 (refine wpHJ_np (v:=?_) 17 rfl rfl (by kernel_rfl) nE (.inr hS) ?_ ?_;rotate_left;(focus first | (refine Or.inr ⟨?_,?_⟩;(focus (simp [Region.wanted,yielded,undef];done));rfl) | (refine Or.inl ⟨?_,?_⟩;(focus (simp [Region.wanted,yielded,undef];done));intro w' _;go_simp;try rfl));simp only [aP])
      refine wpHJ_pure (v:=?v1) 11 hFa rfl (by kernel_rfl) nE (Or.inl ⟨by simp [Region.wanted,yielded,undef],?y1⟩) (.inr hS) ?r1
      case y1=>(intro w' _;go_simp;try rfl)
      simp only [aP]
      refine wpHJ_take (v:=?v2) 12 hFa rfl (by kernel_rfl) nE (Or.inl ⟨by simp [Region.wanted,yielded,undef],?y2⟩) hS ?r2
      case y2=>(rintro w' ⟨s0,s1,s2,s3,s4,s5,s6⟩;go_simp;try rfl)
      simp only [aP]
      refine oy 9 fun K hK=>?_
      rw [if_pos (by simp [Region.wanted,yielded,undef])]
      go_simp
      refine hK _ _ (.inr (.inr hS)) ?_
      clear hK K
      refine oy 10 fun K hK=>?_
      rw [if_pos (by simp [Region.wanted,yielded,undef])]
      go_simp
      (with_reducible refine (callsIn_wide.2 (rarrnames_any p _ _ _ _ wb.drew HPG4.out HL.out.arrays)).mono ?_)
      rintro e w5 ⟨v5,rfl,hs5,hb5⟩
      rw [HTT.out] at hs5
      obtain ⟨p5,c5,rfl⟩:=hs5.slc
      have HB5:=hid (HB4.trans ((hb5).mono HB4.size));have HX5:=hid (HX4.bel (hb5));have HZ5:=hid (HZ4.bel (hb5));have HU5:=hid (HU4.bel (hb5));have HG5:=hid (HG4.keep (hb5))
      have HW5:=hid (HVb.bel ((Below.refl _ _).drew.trans hb5))
      have HAN:=hid (hs5.slw (by rw [<- HTT.out,List.length_map];have:=HL.arrays;omega))
      clear hs5 hb5
      have hS5:(fun W=>W.cell? ⟨w.heap.size,0,none⟩=some (.int .i64 p.width)/\W.cell? ⟨w.heap.size,1,none⟩=some (.slice pa p.chans.length ca)/\W.cell? ⟨w.heap.size,2,none⟩=some (.slice pb p.arrays.length cb)/\W.cell? ⟨w.heap.size,3,none⟩=some (.slice pc p.funcs.length cc)/\W.cell? ⟨w.heap.size,4,none⟩=some (.slice pd p.main.length cd)/\W.cell? ⟨wr.heap.size,0,none⟩=some (.int .u8 2)/\W.cell? ⟨wr.heap.size,3,none⟩=some (.string ⟨x.nm.toArray⟩)) w5:=⟨HX5.at 0 rfl,HX5.at 1 rfl,HX5.at 2 rfl,HX5.at 3 rfl,HX5.at 4 rfl,HU5.at 0 rfl,HU5.at 3 rfl⟩
      refine hK _ _ (.inr (.inr hS5)) ?_
      clear hK K
      refine oy 13 fun K hK=>?_
      rw [if_pos (by simp [Region.wanted,yielded,undef])]
      go_simp
      (with_reducible refine (callsIn_wide.2 (ris_any T x.nm _ _ w5 HAN.out)).mono ?_)
      rintro e w5 ⟨rfl,rfl⟩
      rw [HCC.out]
      refine hK _ _ (.inl rfl) ?_
      clear hK K
      iterate 3 (refine wpHJ_np (v:=?_) 17 rfl rfl (by kernel_rfl) nE (.inl rfl) ?_ ?_;rotate_left;(focus refine Or.inl ⟨by simp [Region.wanted,yielded,undef],?_⟩;intro w' _;go_simp;try rfl);simp only [aP])
      refine wpHJ_done (by kernel_rfl) ?_ _
      simp only [onlyN,Exit.then]
      clear hFa
      go_wp2_with fail
      go_meet
      case rel=>exact ⟨by show Value.bool _=Value.bool ((decide (x.kind=2) || decide (x.kind=3)) && !T.contains x.nm);rw [HCC.out];simp [HKF.out],HW5.out,HG5.out,HB5.out⟩
     ·have HKF:=hid hkd
      have hkI:(x.kind:Int)=3:=by omega
      have HVb:=HUb
      replace HUb:=hid (show BxL 41 wr.heap.size (inK 3 x (.slice pi x.args.length ci)) wb from by have h:=HUb.out;rw [hkI] at h;exact h)
      clear hkI
      clear hkd
      have HB4:=hid (HBb.trans (((Below.refl _ _).drew:Below wb.heap.size wb wb.drew).mono HBb.size));have HX4:=hid (HXb.bel ((Below.refl _ _).drew:Below wb.heap.size wb wb.drew));have HZ4:=hid (HZb.bel ((Below.refl _ _).drew:Below wb.heap.size wb wb.drew));have HU4:=hid (HUb.bel ((Below.refl _ _).drew:Below wb.heap.size wb wb.drew));have HG4:=hid (HGb.keep ((Below.refl _ _).drew:Below wb.heap.size wb wb.drew))
      have HW4:=hid (HVb.bel (Below.refl _ _).drew)
      have HPG4:=hid (show PgV (·<wb.drew.heap.size) wb.drew (.slice pa p.chans.length ca) (.slice pb p.arrays.length cb) (.slice pc p.funcs.length cc) (.slice pd p.main.length cd) p from HG2.keep fun k hk=>⟨Nat.lt_of_lt_of_le hk HB4.size,HB4.block k hk⟩)
      have hS:(fun W=>W.cell? ⟨w.heap.size,0,none⟩=some (.int .i64 p.width)/\W.cell? ⟨w.heap.size,1,none⟩=some (.slice pa p.chans.length ca)/\W.cell? ⟨w.heap.size,2,none⟩=some (.slice pb p.arrays.length cb)/\W.cell? ⟨w.heap.size,3,none⟩=some (.slice pc p.funcs.length cc)/\W.cell? ⟨w.heap.size,4,none⟩=some (.slice pd p.main.length cd)/\W.cell? ⟨wr.heap.size,0,none⟩=some (.int .u8 3)/\W.cell? ⟨wr.heap.size,3,none⟩=some (.string ⟨x.nm.toArray⟩)) wb.drew:=⟨HX4.at 0 rfl,HX4.at 1 rfl,HX4.at 2 rfl,HX4.at 3 rfl,HX4.at 4 rfl,HU4.at 0 rfl,HU4.at 3 rfl⟩
      have hFa:=fT
      refine rgN (fun W=>W.cell? ⟨w.heap.size,0,none⟩=some (.int .i64 p.width)/\W.cell? ⟨w.heap.size,1,none⟩=some (.slice pa p.chans.length ca)/\W.cell? ⟨w.heap.size,2,none⟩=some (.slice pb p.arrays.length cb)/\W.cell? ⟨w.heap.size,3,none⟩=some (.slice pc p.funcs.length cc)/\W.cell? ⟨w.heap.size,4,none⟩=some (.slice pd p.main.length cd)/\W.cell? ⟨wr.heap.size,0,none⟩=some (.int .u8 3)/\W.cell? ⟨wr.heap.size,3,none⟩=some (.string ⟨x.nm.toArray⟩)) 13 (by kernel_rfl) ?_
      simp only [zP,Nat.reduceAdd]
      refine wpHJ_pure (v:=?v3) 0 hFa rfl (by kernel_rfl) nE (Or.inl ⟨by rfl,?y3⟩) (.inr hS) ?r3
      case y3=>(intro w' _;go_simp;try rfl)
      simp only [aP]
      refine oy 1 fun K hK=>?_
      go_simp
      refine hK _ _ (.inr (.inr hS)) ?_
      clear hK K
      iterate 3 (refine wpHJ_np (v:=?_) 17 rfl rfl (by kernel_rfl) nE (.inr hS) ?_ ?_;rotate_left;(focus refine Or.inl ⟨by simp [Region.wanted,yielded,undef],?_⟩;intro w' _;go_simp;try rfl);simp only [aP])
      refine oy 5 fun K hK=>?_
      rw [if_pos (by simp [Region.wanted,yielded,undef])]
      go_simp
      refine hK _ _ (.inr (.inr hS)) ?_
      clear hK K
      iterate 3 (refine wpHJ_np (v:=?_) 17 rfl rfl (by kernel_rfl) nE (.inr hS) ?_ ?_;rotate_left;(focus refine Or.inl ⟨by simp [Region.wanted,yielded,undef],?_⟩;intro w' _;go_simp;try rfl);simp only [aP])
      refine wpHJ_pure (v:=?v4) 11 hFa rfl (by kernel_rfl) nE (Or.inl ⟨by simp [Region.wanted,yielded,undef],?y4⟩) (.inr hS) ?r4
      case y4=>(intro w' _;go_simp;try rfl)
      simp only [aP]
      refine wpHJ_take (v:=?v5) 12 hFa rfl (by kernel_rfl) nE (Or.inl ⟨by simp [Region.wanted,yielded,undef],?y5⟩) hS ?r5
      case y5=>(rintro w' ⟨s0,s1,s2,s3,s4,s5,s6⟩;go_simp;try rfl)
      simp only [aP]
      refine oy 9 fun K hK=>?_
      rw [if_pos (by simp [Region.wanted,yielded,undef])]
      go_simp
      refine hK _ _ (.inr (.inr hS)) ?_
      clear hK K
      refine oy 10 fun K hK=>?_
      rw [if_pos (by simp [Region.wanted,yielded,undef])]
      go_simp
      (with_reducible refine (callsIn_wide.2 (rarrnames_any p _ _ _ _ wb.drew HPG4.out HL.out.arrays)).mono ?_)
      rintro e w5 ⟨v5,rfl,hs5,hb5⟩
      rw [HTT.out] at hs5
      obtain ⟨p5,c5,rfl⟩:=hs5.slc
      have HB5:=hid (HB4.trans ((hb5).mono HB4.size));have HX5:=hid (HX4.bel (hb5));have HZ5:=hid (HZ4.bel (hb5));have HU5:=hid (HU4.bel (hb5));have HG5:=hid (HG4.keep (hb5))
      have HW5:=hid (HVb.bel ((Below.refl _ _).drew.trans hb5))
      have HAN:=hid (hs5.slw (by rw [<- HTT.out,List.length_map];have:=HL.arrays;omega))
      clear hs5 hb5
      have hS5:(fun W=>W.cell? ⟨w.heap.size,0,none⟩=some (.int .i64 p.width)/\W.cell? ⟨w.heap.size,1,none⟩=some (.slice pa p.chans.length ca)/\W.cell? ⟨w.heap.size,2,none⟩=some (.slice pb p.arrays.length cb)/\W.cell? ⟨w.heap.size,3,none⟩=some (.slice pc p.funcs.length cc)/\W.cell? ⟨w.heap.size,4,none⟩=some (.slice pd p.main.length cd)/\W.cell? ⟨wr.heap.size,0,none⟩=some (.int .u8 3)/\W.cell? ⟨wr.heap.size,3,none⟩=some (.string ⟨x.nm.toArray⟩)) w5:=⟨HX5.at 0 rfl,HX5.at 1 rfl,HX5.at 2 rfl,HX5.at 3 rfl,HX5.at 4 rfl,HU5.at 0 rfl,HU5.at 3 rfl⟩
      refine hK _ _ (.inr (.inr hS5)) ?_
      clear hK K
      refine oy 13 fun K hK=>?_
      rw [if_pos (by simp [Region.wanted,yielded,undef])]
      go_simp
      (with_reducible refine (callsIn_wide.2 (ris_any T x.nm _ _ w5 HAN.out)).mono ?_)
      rintro e w5 ⟨rfl,rfl⟩
      rw [HCC.out]
      refine hK _ _ (.inl rfl) ?_
      clear hK K
      iterate 3 (refine wpHJ_np (v:=?_) 17 rfl rfl (by kernel_rfl) nE (.inl rfl) ?_ ?_;rotate_left;(focus refine Or.inl ⟨by simp [Region.wanted,yielded,undef],?_⟩;intro w' _;go_simp;try rfl);simp only [aP])
      refine wpHJ_done (by kernel_rfl) ?_ _
      simp only [onlyN,Exit.then]
      clear hFa
      go_wp2_with fail
      go_meet
      case rel=>exact ⟨by show Value.bool _=Value.bool ((decide (x.kind=2) || decide (x.kind=3)) && !T.contains x.nm);rw [HCC.out];simp [HKF.out],HW5.out,HG5.out,HB5.out⟩
     ·have HKF:=hid hkd
      have t2:((x.kind:Int) == 2)=false:=by rw [beq_eq_false_iff_ne];omega
      have t3:((x.kind:Int) == 3)=false:=by rw [beq_eq_false_iff_ne];omega
      have HVb:=HUb
      clear hkd
      have HB4:=hid (HBb.trans (((Below.refl _ _).drew:Below wb.heap.size wb wb.drew).mono HBb.size));have HX4:=hid (HXb.bel ((Below.refl _ _).drew:Below wb.heap.size wb wb.drew));have HZ4:=hid (HZb.bel ((Below.refl _ _).drew:Below wb.heap.size wb wb.drew));have HU4:=hid (HUb.bel ((Below.refl _ _).drew:Below wb.heap.size wb wb.drew));have HG4:=hid (HGb.keep ((Below.refl _ _).drew:Below wb.heap.size wb wb.drew))
      have HW4:=hid (HVb.bel (Below.refl _ _).drew)
      have hS:(fun W=>W.cell? ⟨w.heap.size,0,none⟩=some (.int .i64 p.width)/\W.cell? ⟨w.heap.size,1,none⟩=some (.slice pa p.chans.length ca)/\W.cell? ⟨w.heap.size,2,none⟩=some (.slice pb p.arrays.length cb)/\W.cell? ⟨w.heap.size,3,none⟩=some (.slice pc p.funcs.length cc)/\W.cell? ⟨w.heap.size,4,none⟩=some (.slice pd p.main.length cd)/\W.cell? ⟨wr.heap.size,0,none⟩=some (.int .u8 (x.kind:Int))/\W.cell? ⟨wr.heap.size,3,none⟩=some (.string ⟨x.nm.toArray⟩)) wb.drew:=⟨HX4.at 0 rfl,HX4.at 1 rfl,HX4.at 2 rfl,HX4.at 3 rfl,HX4.at 4 rfl,HU4.at 0 rfl,HU4.at 3 rfl⟩
      have hFa:=fT
      refine rgN (fun W=>W.cell? ⟨w.heap.size,0,none⟩=some (.int .i64 p.width)/\W.cell? ⟨w.heap.size,1,none⟩=some (.slice pa p.chans.length ca)/\W.cell? ⟨w.heap.size,2,none⟩=some (.slice pb p.arrays.length cb)/\W.cell? ⟨w.heap.size,3,none⟩=some (.slice pc p.funcs.length cc)/\W.cell? ⟨w.heap.size,4,none⟩=some (.slice pd p.main.length cd)/\W.cell? ⟨wr.heap.size,0,none⟩=some (.int .u8 (x.kind:Int))/\W.cell? ⟨wr.heap.size,3,none⟩=some (.string ⟨x.nm.toArray⟩)) 16 (by kernel_rfl) ?_
      simp only [zP,Nat.reduceAdd]
      refine wpHJ_pure (v:=?v6) 0 hFa rfl (by kernel_rfl) nE (Or.inl ⟨by rfl,?y6⟩) (.inr hS) ?r6
      case y6=>(intro w' _;go_simp;try rfl)
      simp only [aP]
      refine oy 1 fun K hK=>?_
      go_simp
      refine hK _ _ (.inr (.inr hS)) ?_
      clear hK K
      iterate 3 (refine wpHJ_np (v:=?_) 17 rfl rfl (by kernel_rfl) nE (.inr hS) ?_ ?_;rotate_left;(focus refine Or.inl ⟨by simp [Region.wanted,yielded,undef],?_⟩;intro w' _;go_simp;try rfl);simp only [aP])
      refine oy 5 fun K hK=>?_
      rw [if_pos (by simp [Region.wanted,yielded,undef])]
      go_simp
      refine hK _ _ (.inr (.inr hS)) ?_
      clear hK K
      iterate 4 (refine wpHJ_np (v:=?_) 17 rfl rfl (by kernel_rfl) nE (.inr hS) ?_ ?_;rotate_left;(focus first | (refine Or.inr ⟨?_,?_⟩;(focus (simp [Region.wanted,yielded,undef];done));rfl) | (refine Or.inl ⟨?_,?_⟩;(focus (simp [Region.wanted,yielded,undef];done));intro w' _;go_simp;try rfl));simp only [aP])
      iterate 2 (refine wpHJ_np (v:=?_) 18 rfl rfl (by kernel_rfl) nE (.inr hS) ?_ ?_;rotate_left;(focus (refine Or.inr ⟨?_,?_⟩;(focus (simp [Region.wanted,yielded,undef];done));rfl));simp only [aP])
      refine oy 10 fun K hK=>?_
      rw [if_neg (by simp [Region.wanted,yielded,undef])]
      go_simp
      refine hK _ _ (.inr (.inr hS)) ?_
      clear hK K
      refine oy 13 fun K hK=>?_
      rw [if_neg (by simp [Region.wanted,yielded,undef])]
      go_simp
      refine hK _ _ (.inr (.inr hS)) ?_
      clear hK K
      iterate 2 (refine wpHJ_np (v:=?_) 17 rfl rfl (by kernel_rfl) nE (.inr hS) ?_ ?_;rotate_left;(focus first | (refine Or.inr ⟨?_,?_⟩;(focus (simp [Region.wanted,yielded,undef];done));rfl) | (refine Or.inl ⟨?_,?_⟩;(focus (simp [Region.wanted,yielded,undef];done));intro w' _;go_simp;try rfl));simp only [aP])
      refine oy 16 fun K hK=>?_
      go_simp
      refine hK _ _ (.inl rfl) (dN ?_)
      clear hK K
      simp only [onlyN,Exit.then]
      clear hFa
      go_wp2_with fail
      go_meet
      case rel=>exact ⟨by show Value.bool _=Value.bool ((decide (x.kind=2) || decide (x.kind=3)) && !T.contains x.nm);rw [HCC.out];simp [HKF.1,HKF.2],HW4.out,HG4.out,HB4.out⟩
    case rest =>
    obtain ⟨hs1,hu1,hg1,hb1⟩:=hcut
    subst hs1
    obtain ⟨wv,rfl⟩:∃ W:World,W=wc:=⟨_,rfl⟩
    have HUv:=hid hu1;have HGv:=hid hg1;have HBv:=hid hb1
    have HXv:=hid (HX2.bel hb1);have HZv:=hid (HZ2.bel hb1)
    clear hu1 hg1 hb1
    by_cases hbo:((decide (x.kind=2) || decide (x.kind=3)) && !T.contains x.nm)=true
    ·have HN3:=hid hbo
     rw [hbo]
     clear hbo
     have HRR:=hid (HRF.out (x.pos,6) (by rw [HRS.out];simp only [HN1.out,HN2.out,HN3.out,if_true,Bool.false_eq_true,if_false]))
     obtain ⟨n0,n1,n2,n3,n4⟩:=HXv.c5
     obtain ⟨m0,m1,m2,m3,m4,m5,m6⟩:=HUv.c7
     obtain ⟨z0,z1,y0,y1⟩:=HZv.z2
     go_wp2_with fail
     obtain ⟨d0,d1⟩:=pos_two HZv.out (.int .i64 x.pos.1) (.int .i64 x.pos.2)
     (try simp only [Exit.inBlock,Exit.then])
     refine bodyPost_ret (v := .tuple #[.agg #[.int .i64 x.pos.1,.int .i64 x.pos.2],.int .i64 6]) (by simp [results,Tryz.results92,go_sem,d0,d1]) rfl ?_
     have h9:=HRR.out
     subst h9
     have hfin:=fun v0 v1=>((HB2.trans (HBv.mono HB2.size)).setCell (p:=⟨w.heap.size+1,0,none⟩) (by show _<=_+1;omega) v0).setCell (p:=⟨w.heap.size+1,1,none⟩) (by show _<=_+1;omega) v1
     first | exact ⟨rfl,hfin _ _⟩ | exact ⟨rfl,(hfin _ _).drew⟩ | exact ⟨rfl,(hfin _ _).drew.drew⟩
    have HN3:=hid (show ((decide (x.kind=2) || decide (x.kind=3)) && !T.contains x.nm)=false from by simpa using hbo)
    rw [HN3.out]
    clear hbo
    go_upto_region 14 with fail
    go_cut [82] (fun s82 wy=>s82=.bool (decide (x.kind=10) && lb.contains x.nm)/\BxL 41 wr.heap.size (inK (x.kind:Int) x (.slice pi x.args.length ci)) wy/\GA kStr w2.heap.size 9 wy (.slice po lb.length co) lb/\Below w2.heap.size w2 wy)
    case first =>
     obtain ⟨bc,hbc⟩:∃ b,lb.contains x.nm=b:=⟨_,rfl⟩
     have HCC:=hid hbc
     clear hbc
     have HLS:=hid (HGv.gfS.slw (by have:=HLB.out;have:=HLT.out;have:=HCL.out;omega))
     by_cases hkd:x.kind=10
     ·have HKF:=hid hkd
      have hkI:(x.kind:Int)=10:=by omega
      have HVv:=HUv
      replace HUv:=hid (show BxL 41 wr.heap.size (inK 10 x (.slice pi x.args.length ci)) wv from by have h:=HUv.out;rw [hkI] at h;exact h)
      clear hkI
      obtain ⟨n0,n1,n2,n3,n4⟩:=HXv.c5
      obtain ⟨m0,m1,m2,m3,m4,m5,m6⟩:=HUv.c7
      obtain ⟨z0,z1,y0,y1⟩:=HZv.z2
      clear hkd
      go_wp2_with (go_at_call 132;(with_reducible refine (ris_any lb x.nm _ _ _ HLS.out).mono ?_);rintro e wv ⟨rfl,rfl⟩;rw [HCC.out])
      go_meet
      case rel=>exact ⟨by show Value.bool _=Value.bool (decide (x.kind=10) && lb.contains x.nm);rw [HCC.out];simp [HKF.out],HVv.out,HGv.out,HBv.out⟩
     ·have HKF:=hid hkd
      have t10:((x.kind:Int) == 10)=false:=by rw [beq_eq_false_iff_ne];omega
      have HVv:=HUv
      obtain ⟨n0,n1,n2,n3,n4⟩:=HXv.c5
      obtain ⟨m0,m1,m2,m3,m4,m5,m6⟩:=HUv.c7
      obtain ⟨z0,z1,y0,y1⟩:=HZv.z2
      clear hkd
      go_wp2_with (go_at_call 132;(with_reducible refine (ris_any lb x.nm _ _ _ HLS.out).mono ?_);rintro e wv ⟨rfl,rfl⟩;rw [HCC.out])
      go_meet
      case rel=>exact ⟨by show Value.bool _=Value.bool (decide (x.kind=10) && lb.contains x.nm);rw [HCC.out];simp [HKF.out],HVv.out,HGv.out,HBv.out⟩
    case rest =>
    obtain ⟨hs1,hu1,hg1,hb1⟩:=hcut
    subst hs1
    obtain ⟨wd,rfl⟩:∃ W:World,W=wc:=⟨_,rfl⟩
    have HUd:=hid hu1;have HGd:=hid hg1;have HBd:=hid hb1
    have HXd:=hid (HX2.bel hb1);have HZd:=hid (HZ2.bel hb1)
    clear hu1 hg1 hb1
    by_cases hbo:(decide (x.kind=10) && lb.contains x.nm)=true
    ·have HN4:=hid hbo
     rw [hbo]
     clear hbo
     have HRR:=hid (HRF.out (x.pos,8) (by rw [HRS.out];simp only [HN1.out,HN2.out,HN3.out,HN4.out,if_true,Bool.false_eq_true,if_false]))
     obtain ⟨n0,n1,n2,n3,n4⟩:=HXd.c5
     obtain ⟨m0,m1,m2,m3,m4,m5,m6⟩:=HUd.c7
     obtain ⟨z0,z1,y0,y1⟩:=HZd.z2
     go_wp2_with fail
     obtain ⟨d0,d1⟩:=pos_two HZd.out (.int .i64 x.pos.1) (.int .i64 x.pos.2)
     (try simp only [Exit.inBlock,Exit.then])
     refine bodyPost_ret (v := .tuple #[.agg #[.int .i64 x.pos.1,.int .i64 x.pos.2],.int .i64 8]) (by simp [results,Tryz.results92,go_sem,d0,d1]) rfl ?_
     have h9:=HRR.out
     subst h9
     have hfin:=fun v0 v1=>((HB2.trans (HBd.mono HB2.size)).setCell (p:=⟨w.heap.size+1,0,none⟩) (by show _<=_+1;omega) v0).setCell (p:=⟨w.heap.size+1,1,none⟩) (by show _<=_+1;omega) v1
     first | exact ⟨rfl,hfin _ _⟩ | exact ⟨rfl,(hfin _ _).drew⟩ | exact ⟨rfl,(hfin _ _).drew.drew⟩
    have HN4:=hid (show (decide (x.kind=10) && lb.contains x.nm)=false from by simpa using hbo)
    rw [HN4.out]
    clear hbo
    go_upto_region 16 with fail
    go_cut [94] (fun s94 wy=>s94=.bool (decide (x.kind=7) && !(S.take m).contains x.nm)/\BxL 41 wr.heap.size (inK (x.kind:Int) x (.slice pi x.args.length ci)) wy/\GA kStr w2.heap.size 9 wy (.slice po lb.length co) lb/\Below w2.heap.size w2 wy)
    case first =>
     obtain ⟨bc,hbc⟩:∃ b,(S.take m).contains x.nm=b:=⟨_,rfl⟩
     have HCC:=hid hbc
     clear hbc
     by_cases hkd:x.kind=7
     ·have HKF:=hid hkd
      have hkI:(x.kind:Int)=7:=by omega
      have HVd:=HUd
      replace HUd:=hid (show BxL 41 wr.heap.size (inK 7 x (.slice pi x.args.length ci)) wd from by have h:=HUd.out;rw [hkI] at h;exact h)
      clear hkI
      clear hkd
      have HB7:=hid (HBd.trans (((Below.refl _ _).drew:Below wd.heap.size wd wd.drew).mono HBd.size));have HX7:=hid (HXd.bel ((Below.refl _ _).drew:Below wd.heap.size wd wd.drew));have HZ7:=hid (HZd.bel ((Below.refl _ _).drew:Below wd.heap.size wd wd.drew));have HU7:=hid (HUd.bel ((Below.refl _ _).drew:Below wd.heap.size wd wd.drew));have HG7:=hid (HGd.keep ((Below.refl _ _).drew:Below wd.heap.size wd wd.drew))
      have HW7:=hid (HVd.bel (Below.refl _ _).drew)
      have HSC:=hid (show SlG kStr (·<w2.heap.size) wd.drew (.slice ps m cs) (S.take m) from (HS2.cut m HM1.out).keep fun k hk=>⟨hk,HB7.block k hk⟩)
      have hmn:=HMN.out
      have hmc:=HMC.out
      have hS:(fun W=>W.cell? ⟨wr.heap.size,0,none⟩=some (.int .u8 7)/\W.cell? ⟨wr.heap.size,3,none⟩=some (.string ⟨x.nm.toArray⟩)) wd.drew:=⟨HU7.at 0 rfl,HU7.at 3 rfl⟩
      have hFa:=fT
      refine rgN (fun W=>W.cell? ⟨wr.heap.size,0,none⟩=some (.int .u8 7)/\W.cell? ⟨wr.heap.size,3,none⟩=some (.string ⟨x.nm.toArray⟩)) 14 (by kernel_rfl) ?_
      simp only [zP,Nat.reduceAdd]
      refine wpHJ_pure (v:=?v7) 0 hFa rfl (by kernel_rfl) nE (Or.inl ⟨by rfl,?y7⟩) (.inr hS) ?r7
      case y7=>(intro w' _;go_simp;try rfl)
      simp only [aP]
      refine oy 1 fun K hK=>?_
      go_simp
      refine hK _ _ (.inr (.inr hS)) ?_
      clear hK K
      iterate 8 (refine wpHJ_np (v:=?_) 15 rfl rfl (by kernel_rfl) nE (.inr hS) ?_ ?_;rotate_left;(focus refine Or.inl ⟨by simp [Region.wanted,yielded,undef],?_⟩;intro w' _;go_simp;try rfl);simp only [aP])
      refine oy 10 fun K hK=>?_
      rw [if_pos (by simp [Region.wanted,yielded,undef])]
      go_simp
      refine hK _ _ (.inr (.inr hS)) ?_
      clear hK K
      refine oy 11 fun K hK=>?_
      rw [if_pos (by simp [Region.wanted,yielded,undef])]
      go_simp
      (with_reducible refine (callsIn_wide.2 (ris_any (S.take m) x.nm _ _ _ HSC.out)).mono ?_)
      rintro e w8 ⟨rfl,rfl⟩
      rw [HCC.out]
      refine hK _ _ (.inr (.inr hS)) ?_
      clear hK K
      iterate 2 (refine wpHJ_np (v:=?_) 15 rfl rfl (by kernel_rfl) nE (.inr hS) ?_ ?_;rotate_left;(focus refine Or.inl ⟨by simp [Region.wanted,yielded,undef],?_⟩;intro w' _;go_simp;try rfl);simp only [aP])
      refine oy 14 fun K hK=>?_
      go_simp
      refine hK _ _ (.inl rfl) (dN ?_)
      clear hK K
      simp only [onlyN,Exit.then]
      clear hFa
      clear hmn hmc
      go_wp2_with fail
      go_meet
      case rel=>exact ⟨by show Value.bool _=Value.bool (decide (x.kind=7) && !(S.take m).contains x.nm);rw [HCC.out];simp [HKF.out],HW7.out,HG7.out,HB7.out⟩
     ·have HKF:=hid hkd
      have t7:((x.kind:Int) == 7)=false:=by rw [beq_eq_false_iff_ne];omega
      have HVd:=HUd
      clear hkd
      have HB7:=hid (HBd.trans (((Below.refl _ _).drew:Below wd.heap.size wd wd.drew).mono HBd.size));have HX7:=hid (HXd.bel ((Below.refl _ _).drew:Below wd.heap.size wd wd.drew));have HZ7:=hid (HZd.bel ((Below.refl _ _).drew:Below wd.heap.size wd wd.drew));have HU7:=hid (HUd.bel ((Below.refl _ _).drew:Below wd.heap.size wd wd.drew));have HG7:=hid (HGd.keep ((Below.refl _ _).drew:Below wd.heap.size wd wd.drew))
      have HW7:=hid (HVd.bel (Below.refl _ _).drew)
      have hS:(fun W=>W.cell? ⟨wr.heap.size,0,none⟩=some (.int .u8 (x.kind:Int))/\W.cell? ⟨wr.heap.size,3,none⟩=some (.string ⟨x.nm.toArray⟩)) wd.drew:=⟨HU7.at 0 rfl,HU7.at 3 rfl⟩
      have hFa:=fT
      refine rgN (fun W=>W.cell? ⟨wr.heap.size,0,none⟩=some (.int .u8 (x.kind:Int))/\W.cell? ⟨wr.heap.size,3,none⟩=some (.string ⟨x.nm.toArray⟩)) 14 (by kernel_rfl) ?_
      simp only [zP,Nat.reduceAdd]
      refine wpHJ_pure (v:=?v8) 0 hFa rfl (by kernel_rfl) nE (Or.inl ⟨by rfl,?y8⟩) (.inr hS) ?r8
      case y8=>(intro w' _;go_simp;try rfl)
      simp only [aP]
      refine oy 1 fun K hK=>?_
      go_simp
      refine hK _ _ (.inr (.inr hS)) ?_
      clear hK K
      iterate 9 (refine wpHJ_np (v:=?_) 15 rfl rfl (by kernel_rfl) nE (.inr hS) ?_ ?_;rotate_left;(focus first | (refine Or.inr ⟨?_,?_⟩;(focus (simp [Region.wanted,yielded,undef];done));rfl) | (refine Or.inl ⟨?_,?_⟩;(focus (simp [Region.wanted,yielded,undef];done));intro w' _;go_simp;try rfl));simp only [aP])
      refine oy 11 fun K hK=>?_
      rw [if_neg (by simp [Region.wanted,yielded,undef])]
      go_simp
      refine hK _ _ (.inr (.inr hS)) ?_
      clear hK K
      iterate 2 (refine wpHJ_np (v:=?_) 15 rfl rfl (by kernel_rfl) nE (.inr hS) ?_ ?_;rotate_left;(focus first | (refine Or.inr ⟨?_,?_⟩;(focus (simp [Region.wanted,yielded,undef];done));rfl) | (refine Or.inl ⟨?_,?_⟩;(focus (simp [Region.wanted,yielded,undef];done));intro w' _;go_simp;try rfl));simp only [aP])
      refine oy 14 fun K hK=>?_
      go_simp
      refine hK _ _ (.inl rfl) (dN ?_)
      clear hK K
      simp only [onlyN,Exit.then]
      clear hFa
      go_wp2_with fail
      go_meet
      case rel=>exact ⟨by show Value.bool _=Value.bool (decide (x.kind=7) && !(S.take m).contains x.nm);rw [HCC.out];simp [HKF.out],HW7.out,HG7.out,HB7.out⟩
    case rest =>
    obtain ⟨hs1,hu1,hg1,hb1⟩:=hcut
    subst hs1
    obtain ⟨we,rfl⟩:∃ W:World,W=wc:=⟨_,rfl⟩
    have HUe:=hid hu1;have HGe:=hid hg1;have HBe:=hid hb1
    have HXe:=hid (HX2.bel hb1);have HZe:=hid (HZ2.bel hb1)
    clear hu1 hg1 hb1
    by_cases hbo:(decide (x.kind=7) && !(S.take m).contains x.nm)=true
    ·have HN5:=hid hbo
     rw [hbo]
     clear hbo
     have HRR:=hid (HRF.out (x.pos,5) (by rw [HRS.out];simp only [HN1.out,HN2.out,HN3.out,HN4.out,HN5.out,if_true,Bool.false_eq_true,if_false]))
     obtain ⟨n0,n1,n2,n3,n4⟩:=HXe.c5
     obtain ⟨m0,m1,m2,m3,m4,m5,m6⟩:=HUe.c7
     obtain ⟨z0,z1,y0,y1⟩:=HZe.z2
     go_wp2_with fail
     obtain ⟨d0,d1⟩:=pos_two HZe.out (.int .i64 x.pos.1) (.int .i64 x.pos.2)
     (try simp only [Exit.inBlock,Exit.then])
     refine bodyPost_ret (v := .tuple #[.agg #[.int .i64 x.pos.1,.int .i64 x.pos.2],.int .i64 5]) (by simp [results,Tryz.results92,go_sem,d0,d1]) rfl ?_
     have h9:=HRR.out
     subst h9
     have hfin:=fun v0 v1=>((HB2.trans (HBe.mono HB2.size)).setCell (p:=⟨w.heap.size+1,0,none⟩) (by show _<=_+1;omega) v0).setCell (p:=⟨w.heap.size+1,1,none⟩) (by show _<=_+1;omega) v1
     first | exact ⟨rfl,hfin _ _⟩ | exact ⟨rfl,(hfin _ _).drew⟩ | exact ⟨rfl,(hfin _ _).drew.drew⟩
    have HN5:=hid (show (decide (x.kind=7) && !(S.take m).contains x.nm)=false from by simpa using hbo)
    rw [HN5.out]
    clear hbo
    go_wp2_with fail
    go_meet
    case rel=>exact ⟨by rw [HTT.out,HRS.out];simp only [HN1.out,HN2.out,HN3.out,HN4.out,HN5.out,Bool.false_eq_true,if_false],HUe.out,HGe.out,HBe.out⟩
   case rest =>
   obtain ⟨hst,hu,hg,hb⟩:=hcut
   have HNX:=hid (HRN.out hst)
   have HUc:=hid hu;have HGc:=hid hg;have HBc:=hid hb
   have m0:wc.cell? ⟨wr.heap.size,0,none⟩=some (.int .u8 (x.kind:Int)):=hu.at 0 rfl
   have m3:wc.cell? ⟨wr.heap.size,3,none⟩=some (.string ⟨x.nm.toArray⟩):=hu.at 3 rfl
   clear hst hu hg hb HRF HRN
   by_cases hk10:x.kind=10
   ·replace m0:wc.cell? ⟨wr.heap.size,0,none⟩=some (.int .u8 10):=by rw [m0,hk10];rfl
    have HRL:=hid (rl_yes lb hk10)
    clear hk10
    generalize x.nm=y at *
    go_wp2_with (at_builtin;refine wpList_push (K:=kStr) (x:=y) (cs:=[.string ⟨y.toArray⟩]) (te:=9) rfl _ _ 22 rfl Tryz.underlying22 _ 16 info_strG rfl HGc.out rfl rfl rfl (by have:=HLB.out;have:=HLT.out;have:=HCL.out;omega) (by have:=HLB.out;have:=HLT.out;have:=HCL.out;unfold maxLen;omega) HBc.out.size ?_;intro v5 w5 hg5 hgr5 hm5;have HG5:=hid hg5;have HB5:=hid (below_push HGc.out HBc.out hgr5 HBc.out.size);clear hg5 hgr5 hm5)
    go_roundw
    case rel=>exact ⟨k+1,lb++[y],HLT.out,by rw [wrap_next HLT.out (by have:=HCL.out;omega)],HG5.out,by rw [List.length_append];have:=HLB.out;simp;omega,by rw [<- HRL.out];exact HNX.out,HB5.out⟩
    case measure=>first | exact meas_next HLT.out (by have:=HCL.out;omega) | (have h1:=HLT.out;simp [intOf];omega)
   ·have hwd:((x.kind:Int) == 10)=false:=by rw [beq_eq_false_iff_ne];omega
    have HRL:=hid (rl_no lb hk10)
    clear hk10
    go_wp2_with fail
    go_roundw
    case rel=>exact ⟨k+1,lb,HLT.out,by first | (rw [wrap_next HLT.out (by have:=HCL.out;omega)]) | rfl,HGc.out,by have:=HLB.out;omega,by have h:=HNX.out;rw [HRL.out] at h;exact h,HBc.out⟩
    case measure=>first | exact meas_next HLT.out (by have:=HCL.out;omega) | (have h1:=HLT.out;simp [intOf];omega)
  ·obtain rfl:k=code.length:=by omega
   have HRR:=hid (show r=((0,0),0) from by rw [<- HR.out,<- hc,List.drop_length];rfl)
   have HBr:=hid hbr;have HZr:=hid (HZ2.bel hbr)
   clear hlt hbr hga hlb hc
   obtain ⟨z0,z1,y0,y1⟩:=HZr.z2
   go_wp2_with fail
   obtain ⟨d0,d1⟩:=pos_two HZr.out (.int .i64 0) (.int .i64 0)
   (try simp only [Exit.inBlock,Exit.then])
   refine bodyPost_ret (v := .tuple #[.agg #[.int .i64 0,.int .i64 0],.int .i64 0]) (by simp [results,Tryz.results92,go_sem,d0,d1]) rfl ?_
   have h9:=HRR.out
   subst h9
   have hfin:=fun v0 v1=>((HB2.trans (HBr.mono HB2.size)).setCell (p:=⟨w.heap.size+1,0,none⟩) (by show _<=_+1;omega) v0).setCell (p:=⟨w.heap.size+1,1,none⟩) (by show _<=_+1;omega) v1
   first | exact ⟨rfl,hfin _ _⟩ | exact ⟨rfl,(hfin _ _).drew⟩ | exact ⟨rfl,(hfin _ _).drew.drew⟩
end Go.Proofs.YtoofbgoeipijcaaGreatDoor
