/-
 A part.
-/
import Derived.Test.YtoofbgoeipijcaaGreatDoorVB11
namespace Go.Proofs.YtoofbgoeipijcaaGreatDoor
set_option linter.all false
open Go.RowKit Go.Shelf
attribute [local go_sem] Oper.semAt_some
theorem GA.pop {α:Type} {K:EK α} {B e:Nat} {w:World} {p:Option Addr} {n N c:Nat} {l:List α} {x:α} (h:GA K B e w (.slice p N c) (l++[x])) (hn:l.length=n):GA K B e w (.slice p n c) l:=by
 obtain ⟨css,h1,h2⟩:=h.row
 have hl:(l++[x]).length=n+1:=by simp [hn]
 have hln:=h1.lens
 have hcl:css.length=n+1:=by rw [h1.1,hl]
 have ht:=h1.take n
 rw [List.take_left' hn] at ht
 have hob:(Value.slice p N c).ownBlock=(Value.slice p n c).ownBlock:=by cases p <;> rfl
 refine ⟨⟨css.take n,?_,?_⟩⟩
 ·rw [<- hob];exact ht
 ·obtain ⟨hlen,h3⟩:=h2
  refine ⟨?_,?_⟩
  ·rw [hln.take,List.length_take,hln.len,hcl,hn]
   exact Nat.min_eq_left (Nat.mul_le_mul_right _ (by omega))
  ·rcases h3 with ⟨h0,h0'⟩ | ⟨g,cap,cur,hv,hb,hg,hnc,hcm,hcs,htk⟩
   ·exfalso;rw [hl] at h0';omega
   ·rw [hl] at hnc htk hv
    cases hv
    refine .inr ⟨g,c,cur,by rw [hn],hb,hg,by omega,hcm,hcs,?_⟩
    rw [hln.take,<- htk,List.take_take,hn]
    congr 1
    exact (Nat.min_eq_left (Nat.mul_le_mul_right _ (by omega))).symm
theorem GA.slcN {α:Type} {K:EK α} {B e:Nat} {w:World} {v:Value} {l:List α} (h:GA K B e w v l) {N:Nat} (hN:l.length=N):∃ p c,v=.slice p N c/\N<=c/\c<=maxLen:=by
 obtain ⟨css,h1,h2⟩:=h.row
 rcases h2.2 with ⟨rfl,h0⟩ | ⟨g,cap,cur,rfl,hb,hg,hnc,hcm,_⟩
 ·exact ⟨none,0,by rw [<- hN,h0],by omega,by unfold maxLen;omega⟩
 ·exact ⟨_,cap,by rw [hN],by omega,hcm⟩
theorem GA.lit1 {α:Type} {K:EK α} {B:Nat} (w:World) (te:TypeId) {cs:List Value} {x:α} (hx:K.E (fun k=>k<w.heap.size) w cs x) (hB:B<=w.heap.size):GA K B te (w.alloc (.cells cs.toArray te)) (.slice (some ⟨w.heap.size,0,none⟩) 1 1) [x]:=by
 refine ⟨⟨[cs],⟨rfl,fun i hi hi'=>?_⟩,?_⟩⟩
 ·obtain rfl:i=0:=by simp at hi;omega
  refine K.keep hx fun k hk=>⟨⟨by rw [sA];omega,fun e=>?_⟩,by rw [heap_al,if_neg (by omega)]⟩
  have:w.heap.size=k:=by injection e
  omega
 ·refine ⟨by simp [K.len hx],.inr ⟨w.heap.size,1,cs.toArray,rfl,hB,by rw [heap_al,if_pos rfl],Nat.le_refl _,by unfold maxLen;omega,by simp [K.len hx],?_⟩⟩
  simp [K.len hx]
  exact List.take_of_length_le (by rw [K.len hx];exact Nat.le_refl _)
theorem GA.slStr {B e:Nat} {w:World} {v:Value} {l:List Bs} (h:GA kStr B e w v l) (hl:l.length<=140737488355328):SlG kStr (fun k=>B<=k/\k<w.heap.size) w v l:=by
 obtain ⟨css,h1,p,c,hv,h2,h3,h4,h5⟩:=h.sl hl
 refine ⟨css,⟨h1.1,fun i hi hi'=>h1.2 i hi hi'⟩,p,c,hv,h2,h3,h4,?_⟩
 rcases h5 with h5 | ⟨b,off,hp,hR,hc⟩
 ·exact .inl h5
 ·subst hp
  have:=(h.lt b (by rw [hv];rfl)).1
  exact .inr ⟨b,off,rfl,⟨this,hR⟩,hc⟩
theorem GA.keepBut {B e:Nat} {w w':World} {v:Value} {l:List Bs} {r:Nat} {d:List Ent} (h:GA kStr B e w v l) (hs:w.heap.size<=w'.heap.size) (hf:∀ q,q<w.heap.size->q ≠ r->w'.heap[q]?=w.heap[q]?) (hm:MapS w r d):GA kStr B e w' v l:=by
 obtain ⟨css,h1,h2⟩:=h.row
 exact ⟨⟨css,⟨h1.1,fun i hi hi'=>h1.2 i hi hi'⟩,owns_keepG h2 fun j hj=>hf j (h2.lt j hj).2 fun e=>h.not_map hm (e ▸ hj)⟩⟩
theorem NmS.new (w:World):NmS (w.alloc (.map #[] 0)) w.heap.size []:=⟨#[],0,by rw [heap_al,if_pos rfl],rfl⟩
set_option maxRecDepth 100000 in
set_option maxHeartbeats 4000000 in
theorem loops_any (p:Pg) (cb B:Nat) (name:Bs) (vf:Value) (w:World) (hbox:w.cell? ⟨cb,3,none⟩=some vf) (hf:SlG kFu (·<B) w vf p.funcs) (hB:B<=w.heap.size) (hn:p.funcs.length<=32) (hcode:∀ f ∈ p.funcs,f.code.length<=1024) (hc:Closed p) (hname:name ∈ namesP p) :
  Calls Tryz.prog 122 #[.pointer (some ⟨cb,0,none⟩),.string ⟨name.toArray⟩] w fun e w'=>e=.returned (.bool (loopB p name))/\Below w.heap.size w w':=by
 obtain ⟨pf,cf,rfl⟩:=hf.slc
 have hmm:=@run_makeMap Tryz.prog
 have hmf:∀ (fn:Fn) (first cap:Array Value) (w:World),(Instr.makeFunc fn first cap).run Tryz.prog w=.ok (.func fn first cap) w:=fun _ _ _ _=>rfl
 have HF:=hid hf;have HB:=hid hB;have HN:=hid hn;have HCO:=hid hcode;have HC:=hid hc;have HNA:=hid hname;have HBX:=hid hbox
 have HLB:=hid (show loopB p name=loopsM p name (2*p.funcs.length+3) [] [name] from rfl)
 clear hf hB hn hcode hc hname hbox
 go_enter Tryz.func122,Tryz.ntmps122
 go_wp2_with fail
 go_loopg [4,6,7,8,10] (2*p.funcs.length+3) (fun kf v4 v6 v7 v8 v10 wr=>∃ (seen todo:List Bs),seen.Nodup/\(∀ s ∈ seen,s ∈ namesP p)/\(∀ s ∈ todo,s ∈ namesP p)/\2*(p.funcs.length - seen.length)+todo.length+1<=kf/\kf<=2*p.funcs.length+3/\loopB p name=loopsM p name kf seen todo /\
   NmS wr w.heap.size seen/\GA kStr w.heap.size 9 wr v6 todo/\Below w.heap.size w wr)
 case atStart =>
  refine ⟨[],[name],List.nodup_nil,by simp,by simpa using HNA.out,?_,Nat.le_refl _,HLB.out,?_,?_,?_⟩
  ·simp
  ·have h1:=NmS.new w
   exact h1.keep (by rw [heap_al,if_neg];rw [sA];omega)
  ·have h1:=GA.lit1 (K:=kStr) (B:=w.heap.size) (cs:=[.string ⟨name.toArray⟩]) (x:=name) (w.alloc (.map #[] 0)) 9 rfl (by rw [sA];omega)
   rw [sA] at h1;exact h1
  ·exact (bA).alloc (by rw [sA];omega) _
 case round =>
  obtain ⟨wr0,rfl⟩:∃ W:World,W=wr:=⟨_,rfl⟩
  obtain ⟨seen,todo,i1,i2,i3,i4,i5,i6,hms,hga,hbr⟩:=hrel
  by_cases h0:todo=[]
  ·subst h0
   obtain ⟨pt,ct,rfl⟩:=hga.slc
   have HM:=hid (show loopB p name=false from by
    rw [i6]
    cases gk with
    | zero=>rfl
    | succ k=>unfold loopsM;rw [if_pos rfl])
   have HBR:=hid hbr
   clear i1 i2 i3 i4 i5 i6 hms hga hbr
   go_wp2_with fail
   go_ret
   exact ⟨by rw [HM.out];rfl,HBR.out⟩
  obtain ⟨k,rfl⟩:∃ k,gk=k+1:=⟨gk - 1,by omega⟩
  obtain ⟨td,f,rfl⟩:∃ td f,todo=td++[f]:=⟨todo.dropLast,todo.getLast h0,(List.dropLast_concat_getLast h0).symm⟩
  clear h0
  have hfn:f ∈ namesP p:=i3 f (by simp)
  obtain ⟨n,hn⟩:∃ n,td.length=n:=⟨_,rfl⟩
  obtain ⟨N,hN⟩:∃ N,(td++[f]).length=N:=⟨_,rfl⟩
  have hNn:N=n+1:=by rw [<- hN,List.length_append,hn];rfl
  have hn100:n<=100:=by have:=HN.out;rw [hN] at i4;omega
  obtain ⟨pt,ct,rfl,hNc,hcm⟩:=hga.slcN hN
  have hga':=hga.pop hn
  obtain ⟨b,off,hpt,hRb,hcells⟩:=str_at (hga.sl (by rw [hN];omega)) (by rw [hN];omega)
  subst hpt
  have hcell:=hcells n (by rw [hN];omega)
  rw [List.getElem_append_right (by omega)] at hcell
  simp only [hn,Nat.sub_self,List.getElem_cons_zero] at hcell
  have HM:=hid (show loopB p name=(let r:=pushM name (callsM (codeOf p f)) seen td;if r.1 then true else loopsM p name k r.2.1 r.2.2) from by
   rw [i6]
   show (if td++[f]=[] then false else _)=_
   rw [if_neg (by simp)]
   simp)
  obtain ⟨ix,hix,hidx,hfind⟩:=idx_find f p.funcs 0 hfn
  rw [Nat.zero_add] at hidx
  have HCD:=hid (show codeOf p f=p.funcs[ix].code from by unfold codeOf;rw [hfind];rfl)
  have HIDX:=hid (show idxM p.funcs f=(ix:Int) from hidx)
  obtain ⟨bf,of,hpf,hRf,hfcells⟩:=fu_at HF.out (by omega:0<p.funcs.length)
  subst hpf
  obtain ⟨pp,cp,pc,cc,hsp,hsc,e0,e1,e2,e3,e4⟩:=hfcells ix hix
  have hcl:=HCO.out _ (List.getElem_mem hix)
  generalize p.funcs[ix].code=code at *
  have HE2:=hid e2
  have HSC:=hid hsc
  have HGA:=hid hga';have HMS:=hid hms;have HBR:=hid hbr;have HI4:=hid i4;have HI5:=hid i5;have HI1:=hid i1;have HI2:=hid i2
  have HTD:=hid (fun s hs=>i3 s (List.mem_append_left [f] hs))
  have HNN:=hid hn;have HN1:=hid hNn;have HNTD:=hid hN
  have HCL:=hid hcl
  have HRF:=hid hRf;have HIX:=hid hix
  have d3:wr0.cell? ⟨cb,3,none⟩=some (.slice (some ⟨bf,of,none⟩) p.funcs.length cf):=(hbr.cell (p:=⟨cb,3,none⟩) (cell_size HBX.out)).trans HBX.out
  clear i1 i2 i3 i4 i5 i6 hms hga hga' hbr hcells hfind hidx hfcells hsp hsc e0 e1 e2 e3 e4 hfn hcl hRf hix
  have q1:wrap64 ((N:Int) - 1)=(n:Int):=by unfold wrap64;omega
  have q2:(0:Int)<(N:Int):=by omega
  have q3:(n:Int)<(N:Int):=by omega
  have q4:(n:Int)<=(ct:Int):=by omega
  have q5:¬ ct=0:=by omega
  have q6:n<N:=by omega
  clear hNn hN hn
  go_upto_region 5 with fail
  obtain ⟨wa,hwa⟩:∃ W,wr0.alloc (.cells #[.string ⟨f.toArray⟩] 9)=W:=⟨_,rfl⟩
  have hba:Below wr0.heap.size wr0 wa:=by rw [<- hwa];exact bA
  have hbx:wa.cell? ⟨wr0.heap.size,0,none⟩=some (.string ⟨f.toArray⟩):=by rw [<- hwa,cell_al];simp
  rw [hwa]
  have d3a:wa.cell? ⟨cb,3,none⟩=some (.slice (some ⟨bf,of,none⟩) p.funcs.length cf):=(hba.cell (p:=⟨cb,3,none⟩) (cell_size d3)).trans d3
  have HBA:=hid (HBR.trans (hba.mono HBR.size))
  have HAR:=hid hba
  have HIA:=hid (idx_any p.funcs f (.slice (some ⟨bf,of,none⟩) p.funcs.length cf) wr0.heap.size wa (HF.keep fun i hi=>⟨Nat.lt_of_lt_of_le (Nat.lt_of_lt_of_le hi HB.out) HBA.size,HBA.block i (Nat.lt_of_lt_of_le hi HB.out)⟩) hbx)
  clear hwa hba hbx d3 q1 q2 q3 q4 q5 q6 hcell hRb
  have hixN:ix<p.funcs.length:=HIX.out
  have hix2:(ix:Int)<(p.funcs.length:Int):=by omega
  have hlen32:p.funcs.length<=32:=HN.out
  go_wp2_with (first
   | (go_at_call 157;with_reducible refine HIA.out.mono ?_;rw [HIDX.out];rintro e wi ⟨rfl,hbi⟩;have d3i:wi.cell? ⟨cb,3,none⟩=some (.slice (some ⟨bf,of,none⟩) p.funcs.length cf):=(hbi.cell (p:=⟨cb,3,none⟩) (cell_size d3a)).trans d3a;have HBI:=hid (HBA.out.trans (hbi.mono HBA.out.size));have HIR:=hid (HAR.out.trans (hbi.mono HAR.out.size));have HE3:=hid ((HBI.out.cell (p:=⟨bf,of+ix*5+2,none⟩) (Nat.lt_of_lt_of_le HRF.out HB.out)).trans HE2.out);have e2i:=HE3.out;have HCA:=hid (calls_any code (.slice pc code.length cc) wi (HSC.out.keep fun i hi=>⟨Nat.lt_of_lt_of_le (Nat.lt_of_lt_of_le hi HB.out) HBI.out.size,HBI.out.block i (Nat.lt_of_lt_of_le hi HB.out)⟩) (by have:=HCL.out;omega));clear hbi d3a)
   | (go_at_call 159;with_reducible refine HCA.out.mono ?_;rintro e wk ⟨vk,rfl,hgk,hbk⟩;obtain ⟨pk,ck,rfl⟩:=hgk.slc;have HBK:=hid (HBI.out.trans (hbk.mono HBI.out.size));have HKR:=hid (HIR.out.trans (hbk.mono HIR.out.size));have HGK:=hid hgk;clear hgk hbk d3i e2i))
  obtain ⟨gs,hgs⟩:∃ gs,callsM code=gs:=⟨_,rfl⟩
  have HGS:=hid (show callsM (codeOf p f)=gs from by rw [HCD.out];exact hgs)
  have hglen:gs.length<=1024:=by have h1:=calls_len code;rw [hgs] at h1;have:=HCL.out;omega
  rw [hgs] at HGK ⊢
  clear hgs
  have HSG:=hid (HGK.slStr (by omega))
  have HGL:=hid hglen
  have hbn:b<=b:=Nat.le_refl _
  have HBW:=hid (show b<wr0.heap.size from (HGA.lt b rfl).2)
  have hwi:wr0.heap.size<=wi.heap.size:=HIR.size
  have HMK:=hid (HMS.keep (HKR.block _ HMS.lt))
  have HGAK:=hid (HGA.keep HKR.out)
  have HWI:=hid hwi
  have HMW:=hid HMS.lt
  clear hglen hbn hwi hix2 hlen32 hixN
  go_loopw [4,6,10,46] (fun v4 v6 v10 iv wx=>∃ (j:Nat) (sn tq:List Bs),j<=gs.length/\iv=.int .i64 (j:Int)/\pushM name (gs.drop j) sn tq=pushM name gs seen td/\tq.length<=n+j/\NmS wx w.heap.size sn/\GA kStr w.heap.size 9 wx v6 tq/\Below w.heap.size w wx /\
   wk.heap.size<=wx.heap.size/\(∀ q,(wi.heap.size<=q/\q<wk.heap.size)->v6.ownBlock ≠ some q/\wx.heap[q]?=wk.heap[q]?)) (fun _ _ _ iv _=>gs.length - (intOf iv).toNat)
  case atStart =>
   refine ⟨0,seen,td,Nat.zero_le _,rfl,rfl,by have:=HNN.out;omega,HMK.out,HGAK.out,HBK.out,Nat.le_refl _,fun q hq=>⟨fun e=>?_,rfl⟩⟩
   have e:b=q:=by injection e
   have:=HBW.out;have:=HWI.out;omega
  case round =>
   obtain ⟨j,sn,tq,hj,rfl,hpm,htl,hms,hga,hbx,hsx,hq⟩:=hrel
   obtain ⟨pq,cq,rfl⟩:=hga.slc
   have HPM:=hid hpm;have HMX:=hid hms;have HGX:=hid hga;have HBX2:=hid hbx;have HSX:=hid hsx;have HQ:=hid hq;have HTL:=hid htl
   clear hpm hms hga hbx hsx hq htl
   by_cases hlt:j<gs.length
   ·have hsl:=HSG.keep (R':=fun q=>wi.heap.size<=q/\q<wk.heap.size) (w':=wr) fun q hq=>⟨hq,(HQ.out q hq).2⟩
    obtain ⟨b8,o8,rfl,hR8,hc8⟩:=str_at hsl (by omega)
    have hcell:=hc8 j hlt
    have HP:=hid (show pushM name (gs[j] :: gs.drop (j+1)) sn tq=pushM name gs seen td from by rw [<- HPM.out,List.drop_eq_getElem_cons hlt])
    have HLT:=hid hlt
    have hjl:(j:Int)<(gs.length:Int):=by omega
    clear hsl hR8 hc8
    generalize gs[j]=g at *
    clear hlt
    by_cases hgn:g=name
    ·subst hgn
     have t1:(g == g)=true:=beq_self_eq_true g
     have HR:=hid (show loopB p g=true from by
      rw [HM.out,HGS.out,<- HP.out]
      simp [pushM])
     go_wp2_with fail
     go_ret
     exact ⟨by rw [HR.out];rfl,HBX2.out⟩
    ·have t1:(g == name)=false:=beq_eq_false_iff_ne.2 hgn
     have hpu:pushM name (g :: gs.drop (j+1)) sn tq=if sn.contains g then pushM name (gs.drop (j+1)) sn tq else pushM name (gs.drop (j+1)) (sn++[g]) (tq++[g]):=by
      show (if g=name then _ else _)=_
      rw [if_neg hgn]
     rw [hpu] at HP
     clear hpu hgn
     cases hcs:sn.contains g with
     | true =>
      rw [hcs,if_pos rfl] at HP
      have HCS:=hid hcs
      clear hcs
      go_wp2_with (first
       | (at_lookup;refine wpList_lookS rfl _ _ 119 rfl 9 4 Tryz.underlying119 Tryz.underlying9 (.bool false) (fun W=>by kernel_rfl) w.heap.size (nmE sn) g rfl HMX.out rfl ?_;rw [nmE_get,HCS.out]))
      go_roundw
      case rel=>exact ⟨j+1,sn,tq,HLT.out,by rw [wrap_next HLT.out (by have:=HGL.out;omega)],HP.out,by have:=HTL.out;omega,HMX.out,HGX.out,HBX2.out,HSX.out,HQ.out⟩
      case measure=>exact meas_next HLT.out (by have:=HGL.out;omega)
     | false =>
      rw [hcs,if_neg (by decide)] at HP
      have HCS:=hid hcs
      clear hcs
      have HND:=hid HNN.out
      go_wp2_with (first
       | (at_lookup;refine wpList_lookS rfl _ _ 119 rfl 9 4 Tryz.underlying119 Tryz.underlying9 (.bool false) (fun W=>by kernel_rfl) w.heap.size (nmE sn) g rfl HMX.out rfl ?_;rw [nmE_get,HCS.out])
       | (at_mapUpdate;go_loud (refine wpList_putS rfl _ _ _ 119 rfl 9 4 Tryz.underlying119 Tryz.underlying9 w.heap.size (nmE sn) g (.bool true) rfl HMX.out rfl rfl ?_;intro w5 hm5 hg5;rw [nmE_put] at hm5;have HM5:=hid hm5;have HG5:=hid hg5;have HGA5:=hid (GA.keepBut HGX.out hg5.size (fun q hq hne=>hg5.block q hq (fun e=>hne (by first | exact Option.some.inj e | exact (Option.some.inj e).symm))) HMX.out);clear hm5 hg5))
       | (at_builtin;refine wpList_push (K:=kStr) (x:=g) (cs:=[.string ⟨g.toArray⟩]) (te:=9) rfl _ _ 22 rfl Tryz.underlying22 _ 16 info_strG rfl HGA5.out rfl rfl rfl (by have h1:=HTL.out;have h2:=HND.out;have h3:=HGL.out;have h4:=HLT.out;omega) (by have h1:=HTL.out;have h3:=HGL.out;have h4:=HLT.out;unfold maxLen;omega) (by have h1:=HBX2.out.size;have h2:=HG5.out.size;omega) ?_;intro v6 w6 hg6 hgr6 hmv6;have HG6:=hid hg6;have HR6:=hid hgr6;have HV6:=hid hmv6;clear hg6 hgr6 hmv6))
      go_roundw
      case rel =>
       have hadd:addN sn g=sn++[g]:=by unfold addN;rw [HCS.out];rfl
       have hs5:=HG5.size
       have hs6:=HR6.size
       rw [sA] at hs6
       have hbw:=HBX2.size
       have hmw:w.heap.size<wr.heap.size:=HMX.lt
       refine ⟨j+1,sn++[g],tq++[g],HLT.out,by rw [wrap_next HLT.out (by have:=HGL.out;omega)],HP.out,by have:=HTL.out;simp;omega,?_,HG6.out,?_,by have:=HSX.out;omega,fun q hq=>?_⟩
       ·rw [<- hadd]
        refine HM5.keep ?_
        have hne:some w.heap.size ≠ (Value.slice pq tq.length cq).ownBlock:=fun e=>HGA5.not_map HM5.out e.symm
        rw [HR6.block w.heap.size (by rw [sA];omega) hne,heap_al,if_neg (by omega)]
       ·refine below_push HGA5.out (HBX2.grown HG5.out hbw fun k hk=>by injection hk with hk;omega) HR6.out (by omega)
       ·have hq2:=HQ.out q hq
        have hsx:=HSX.out
        have hwi:=HWI.out
        have hmwi:=HMW.out
        refine ⟨fun e=>?_,?_⟩
        ·rcases HV6.out with h | ⟨k,h,hk⟩
         ·rw [h] at e;exact hq2.1 e
         ·rw [h] at e;injection e with e;omega
        ·rw [HR6.block q (by rw [sA];omega) (fun e=>hq2.1 e.symm),heap_al,if_neg (by omega),HG5.block q (by omega) (fun e=>by injection e with e;omega)]
         exact hq2.2
      case measure=>exact meas_next HLT.out (by have:=HGL.out;omega)
   ·obtain rfl:j=gs.length:=by omega
    have hP:pushM name gs seen td=(false,sn,tq):=by rw [<- HPM.out,List.drop_length];rfl
    have HP:=hid hP
    clear hlt hP hj
    go_wp2_with fail
    have hi1:=HI1.out
    rcases push_spec name gs seen td hi1 with ⟨h1,h2⟩ | ⟨h1,h2,new,h3,h4,h5,h6,h7⟩
    ·rw [HP.out] at h1;cases h1
    ·rw [HP.out] at h3 h4
     simp only at h3 h4
     have hsn:∀ s ∈ seen++new,s ∈ namesP p:=fun s h=>by
      rcases List.mem_append.1 h with h | h
      ·exact HI2.out s h
      ·exact HC.out f s (by rw [HGS.out];exact h6 s h)
     have hle:=nodup_le (seen++new) (namesP p) h5 hsn
     rw [List.length_append,show (namesP p).length=p.funcs.length by simp [namesP]] at hle
     have hi4:=HI4.out
     have hi5:=HI5.out
     have hnn:=HNN.out
     rw [List.length_append] at hi4
     simp only [List.length_cons,List.length_nil] at hi4
     go_roundg k
     case measure=>omega
     case rel =>
      refine ⟨sn,tq,by rw [h3];exact h5,by rw [h3];exact hsn,fun s hs=>?_,?_,by omega,?_,HMX.out,HGX.out,HBX2.out⟩
      ·rw [h4] at hs
       rcases List.mem_append.1 hs with h | h
       ·exact HTD.out s h
       ·exact hsn s (List.mem_append_right _ h)
      ·rw [h3,h4,List.length_append,List.length_append];omega
      ·rw [HM.out,HGS.out,HP.out];rfl
def exF (r:Except Flt (List (List Bs) × List Bs)) (k:List (List Bs)->List Bs->Flt):Flt:=match r with | .error f=>f | .ok (a,b)=>k a b
def exS {α:Type} (r:Except Flt (List Bs × List Bs)) (k:List Bs->List Bs->Except Flt α):Except Flt α:=match r with | .error f => .error f | .ok (a,b)=>k a b
def exI (r:Except Flt (List Bs × List Bs)) (k:List Bs->Flt):Flt:=match r with | .error f=>f | .ok (a,_)=>k a
def ck7 (p:Pg):Flt:=(loopsAllM p p.funcs).getD ((0,0),0)
def ck6 (p:Pg) (ml:List Bs):Flt:=(targetsM p ml p.main).getD (ck7 p)
def ck5 (p:Pg) (labels:List (List Bs)) (ml:List Bs):Flt:=(laterM p labels p.funcs).getD (ck6 p ml)
def ck4 (p:Pg) (labels:List (List Bs)) (sites:List Bs):Flt:=exI (instrsM p.chans (p.arrays.map Ar.nm) true (0,0) p.main sites) (ck5 p labels)
def ck3 (p:Pg):Flt:=if 32<p.funcs.length then ((0,0),5) else exF (funcsM p.chans (p.arrays.map Ar.nm) [] [] [] p.funcs) (ck4 p)
def ck2 (p:Pg):Flt:=if 32<p.arrays.length then ((0,0),5) else (arrsM [] p.arrays).getD (ck3 p)
def ck1 (p:Pg):Flt:=if 32<p.chans.length then ((0,0),5) else (declM (0,0) [] p.chans).getD (ck2 p)
theorem checkM_ck (p:Pg):checkM p=if p.width<1\/64<p.width then ((0,0),3) else ck1 p:=by
 unfold checkM
 split
 ·rfl
 unfold ck1
 split
 ·rfl
 cases declM (0,0) [] p.chans with
 | some f=>rfl
 | none =>
 simp only [Option.getD_none]
 unfold ck2
 split
 ·rfl
 cases arrsM [] p.arrays with
 | some f=>rfl
 | none =>
 simp only [Option.getD_none]
 unfold ck3
 split
 ·rfl
 cases funcsM p.chans (p.arrays.map Ar.nm) [] [] [] p.funcs with
 | error f=>rfl
 | ok q =>
 obtain ⟨labels,sites⟩:=q
 simp only [exF]
 unfold ck4
 cases instrsM p.chans (p.arrays.map Ar.nm) true (0,0) p.main sites with
 | error f=>rfl
 | ok q =>
 obtain ⟨ml,s2⟩:=q
 simp only [exI]
 unfold ck5
 cases laterM p labels p.funcs with
 | some f=>rfl
 | none =>
 simp only [Option.getD_none]
 unfold ck6
 cases targetsM p ml p.main with
 | some f=>rfl
 | none =>
 simp only [Option.getD_none]
 unfold ck7
 cases loopsAllM p p.funcs with
 | some f=>rfl
 | none=>rfl
theorem declM_cons (pos:Int × Int) (seen:List Bs) (s:Bs) (r:List Bs):declM pos seen (s :: r)=if namedB s=false then some (pos,4) else if seen.contains s then some (pos,8) else declM pos (seen++[s]) r:=rfl
theorem arrsM_cons (seen:List Bs) (a:Ar) (r:List Ar):arrsM seen (a :: r)=if namedB a.nm=false then some ((0,0),4) else if seen.contains a.nm then some ((0,0),8) else if a.size<1\/64<a.size then some ((0,0),3) else arrsM (seen++[a.nm]) r:=rfl
structure RI (B:Nat) (w0:World) (K:CK) (vl:Value) (rs:List Nat) (S:CS) (b2 b3:Nat) (W:World):Prop where
 ck:Ck B W K vl rs S
 pr:PrB B W
 z:BxL 39 b2 [.int .i64 0,.int .i64 0] W
 pb:BxL 27 b3 [.int .i64 K.p.width,K.a,K.b,K.c,K.d] W
 bel:Below B w0 W
 o2:Off B K vl rs b2
 o3:Off B K vl rs b3
variable {B:Nat} {w0 W W':World} {K:CK} {vl:Value} {rs:List Nat} {S:CS} {b2 b3:Nat}
theorem RI.below (h:RI B w0 K vl rs S b2 b3 W) (hb:Below W.heap.size W W'):RI B w0 K vl rs S b2 b3 W' :=
 ⟨h.ck.below hb,h.pr.step (hb.mono h.ck.size),h.z.bel hb,h.pb.bel hb,h.bel.trans (hb.mono h.ck.size),h.o2,h.o3⟩
theorem RI.drew (h:RI B w0 K vl rs S b2 b3 W):RI B w0 K vl rs S b2 b3 W.drew:=h.below (Below.refl _ _).drew
theorem RI.but (h:RI B w0 K vl rs S b2 b3 W) {F:Nat->Prop} (hb:But F W W') {S':CS} (hck:Ck B W' K vl rs S') (hF:∀ k,F k->B<=k/\k ≠ b2/\k ≠ b3):RI B w0 K vl rs S' b2 b3 W':=by
 have hbl:=hb.below h.ck.size fun k hk=>(hF k hk).1
 exact ⟨hck,h.pr.step hbl,h.z.keep (hb.block _ h.z.lt fun e=>(hF _ e).2.1 rfl),h.pb.keep (hb.block _ h.pb.lt fun e=>(hF _ e).2.2 rfl),h.bel.trans hbl,h.o2,h.o3⟩
theorem RI.setCh (h:RI B w0 K vl rs S b2 b3 W) (hb:But (fun k=>k=K.mc) W W') {l:List Bs} (hm:NmS W' K.mc l):RI B w0 K vl rs { S with chans:=l } b2 b3 W' :=
 h.but hb (h.ck.setCh hb hm) fun k hk=>by rw [hk];exact ⟨h.ck.ge.2.1,fun e=>h.o2.2.2.1 e.symm,fun e=>h.o3.2.2.1 e.symm⟩
theorem RI.setAr (h:RI B w0 K vl rs S b2 b3 W) (hb:But (fun k=>k=K.ma) W W') {l:List Bs} (hm:NmS W' K.ma l):RI B w0 K vl rs { S with arrays:=l } b2 b3 W' :=
 h.but hb (h.ck.setAr hb hm) fun k hk=>by rw [hk];exact ⟨h.ck.ge.2.2.1,fun e=>h.o2.2.2.2.1 e.symm,fun e=>h.o3.2.2.2.1 e.symm⟩
theorem RI.setPm (h:RI B w0 K vl rs S b2 b3 W) (hb:But (fun k=>k=K.mp) W W') {l:List (Bs × Nat)} (hm:CtS W' K.mp l):RI B w0 K vl rs { S with params:=l } b2 b3 W' :=
 h.but hb (h.ck.setPm hb hm) fun k hk=>by rw [hk];exact ⟨h.ck.ge.2.2.2.2,fun e=>h.o2.2.2.2.2.2.1 e.symm,fun e=>h.o3.2.2.2.2.2.1 e.symm⟩
theorem RI.other (h:RI B w0 K vl rs S b2 b3 W) {m:Nat} (hb:But (fun k=>k=m) W W') (ho:Off B K vl rs m) (h2:m ≠ b2) (h3:m ≠ b3):RI B w0 K vl rs S b2 b3 W' :=
 h.but hb (h.ck.but hb fun k hk=>by rw [hk];exact ho) fun k hk=>by rw [hk];exact ⟨ho.1,h2,h3⟩
theorem Off.geB {k:Nat} (h:Off B K vl rs k):B<=k:=h.1
theorem Off.moved {k r:Nat} {vl':Value} (h:Off B K vl rs k) (hk:k<W.heap.size) (hm:Moved W vl vl') (hr:W.heap.size<=r):Off B K vl' (rs++[r]) k:=by
 refine ⟨h.1,h.2.1,h.2.2.1,h.2.2.2.1,h.2.2.2.2.1,h.2.2.2.2.2.1,fun e=>?_,fun e=>?_⟩
 ·rcases hm with e' | ⟨q,e',hq⟩
  ·exact h.2.2.2.2.2.2.1 (e'.symm.trans e)
  ·rw [e'] at e;injection e with e;omega
 ·rcases List.mem_append.1 e with e | e
  ·exact h.2.2.2.2.2.2.2 e
  ·have:=List.mem_singleton.1 e;omega
theorem RI.labels (h:RI B w0 K vl rs S b2 b3 W) {vl':Value} {r:Nat} {S':CS} (hck:Ck B W' K vl' (rs++[r]) S') (hb:But (fun k=>k=K.cb\/k=K.ms\/vl.ownBlock=some k) W W') (hr:W.heap.size<=r) (hm:Moved W vl vl'):RI B w0 K vl' (rs++[r]) S' b2 b3 W':=by
 have hF:∀ k,(k=K.cb\/k=K.ms\/vl.ownBlock=some k)->B<=k:=fun k hk=>by
  rcases hk with hk | hk | hk
  ·rw [hk];exact h.ck.ge.1
  ·rw [hk];exact h.ck.ge.2.2.2.1
  ·exact (h.ck.lb.lt k hk).1
 have hbl:=hb.below h.ck.size hF
 have hno:∀ k,Off B K vl rs k->¬ (k=K.cb\/k=K.ms\/vl.ownBlock=some k):=fun k ho e=>by
  rcases e with e | e | e
  ·exact ho.2.1 e
  ·exact ho.2.2.2.2.1 e
  ·exact ho.2.2.2.2.2.2.1 e
 exact ⟨hck,h.pr.step hbl,h.z.keep (hb.block _ h.z.lt (hno _ h.o2)),h.pb.keep (hb.block _ h.pb.lt (hno _ h.o3)),h.bel.trans hbl,h.o2.moved h.z.lt hm hr,h.o3.moved h.pb.lt hm hr⟩
theorem NmS.off {l:List Bs} {m:Nat} (hn:NmS W m l) (ho:Off B K vl rs m) (hb:But (fun k=>k=K.cb\/k=K.ms\/vl.ownBlock=some k) W W'):NmS W' m l :=
 hn.keep (hb.block m hn.lt fun e=>by
  rcases e with e | e | e
  ·exact ho.2.1 e
  ·exact ho.2.2.2.2.1 e
  ·exact ho.2.2.2.2.2.2.1 e)
structure FL (B:Nat) (w0:World) (K:CK) (vl:Value) (rs:List Nat) (S:CS) (b2 b3 fm:Nat) (seen:List Bs) (W:World):Prop where
 ri:RI B w0 K vl rs S b2 b3 W
 nm:NmS W fm seen
 of:Off B K vl rs fm
 n2:fm ≠ b2
 n3:fm ≠ b3
variable {fm:Nat} {seen:List Bs}
theorem FL.below (h:FL B w0 K vl rs S b2 b3 fm seen W) (hb:Below W.heap.size W W'):FL B w0 K vl rs S b2 b3 fm seen W':=⟨h.ri.below hb,h.nm.keep (hb.block fm h.nm.lt),h.of,h.n2,h.n3⟩
theorem FL.drew (h:FL B w0 K vl rs S b2 b3 fm seen W):FL B w0 K vl rs S b2 b3 fm seen W.drew:=h.below (Below.refl _ _).drew
theorem FL.decl (h:FL B w0 K vl rs S b2 b3 fm seen W) {l:List Bs} (hm:NmS W' fm l) (hb:But (fun k=>k=fm) W W'):FL B w0 K vl rs S b2 b3 fm l W':=⟨h.ri.other hb h.of h.n2 h.n3,hm,h.of,h.n2,h.n3⟩
theorem FL.other (h:FL B w0 K vl rs S b2 b3 fm seen W) {m:Nat} (hb:But (fun k=>k=m) W W') (ho:Off B K vl rs m) (h2:m ≠ b2) (h3:m ≠ b3) (hf:m ≠ fm):FL B w0 K vl rs S b2 b3 fm seen W' :=
 ⟨h.ri.other hb ho h2 h3,h.nm.keep (hb.block fm h.nm.lt fun e=>hf e.symm),h.of,h.n2,h.n3⟩
theorem FL.setPm (h:FL B w0 K vl rs S b2 b3 fm seen W) (hb:But (fun k=>k=K.mp) W W') {l:List (Bs × Nat)} (hm:CtS W' K.mp l):FL B w0 K vl rs { S with params:=l } b2 b3 fm seen W' :=
 ⟨h.ri.setPm hb hm,h.nm.keep (hb.block fm h.nm.lt fun e=>h.of.2.2.2.2.2.1 e),h.of,h.n2,h.n3⟩
theorem FL.labels (h:FL B w0 K vl rs S b2 b3 fm seen W) {vl':Value} {r:Nat} {S':CS} (hck:Ck B W' K vl' (rs++[r]) S') (hb:But (fun k=>k=K.cb\/k=K.ms\/vl.ownBlock=some k) W W') (hr:W.heap.size<=r) (hm:Moved W vl vl'):FL B w0 K vl' (rs++[r]) S' b2 b3 fm seen W' :=
 ⟨h.ri.labels hck hb hr hm,h.nm.off h.of hb,h.of.moved h.nm.lt hm hr,h.n2,h.n3⟩
theorem FL.start (h:RI B w0 K vl rs S b2 b3 W):FL B w0 K vl rs S b2 b3 W.heap.size [] (W.alloc (.map #[] 0)) :=
 ⟨h.below (bA),NmS.new W,h.ck.apart lrf,by have:=h.z.lt;omega,by have:=h.pb.lt;omega⟩
theorem BxL.bum {t:TypeId} {b m:Nat} {cs:List Value} (h:BxL t b cs W) (hb:But (fun k=>k=m) W W') {d:List Ent} (hm:MapS W m d):BxL t b cs W':=h.keep (hb.block b h.lt fun e=>MapS.not_cells hm (e ▸ h))
theorem funcsM_cons (ch ar:List Bs) (seen:List Bs) (ls:List (List Bs)) (st:List Bs) (f:Fu) (r:List Fu):funcsM ch ar seen ls st (f :: r) =
  if namedB f.nm=false then .error (f.pos,4) else if seen.contains f.nm then .error (f.pos,8) else
  if 32<f.params.length then .error (f.pos,5) else
  match declM f.pos [] f.params with
  | some x => .error x
  | none=>exS (instrsM ch ar false f.pos f.code st) fun l s=>funcsM ch ar (seen++[f.nm]) (ls++[l]) s r:=by
 conv=>lhs;unfold funcsM
 split
 ·rfl
 ·split
  ·rfl
  ·split
   ·rfl
   ·cases declM f.pos [] f.params with
    | some x=>rfl
    | none =>
     cases instrsM ch ar false f.pos f.code st with
     | error x=>rfl
     | ok q=>obtain ⟨a,b⟩:=q;rfl
def cntL (l:List Fu):List (Bs × Nat):=l.map fun f=>(f.nm,f.params.length)
theorem cnt_get (l:List Fu) (s:Bs):getC (cntL l) s=(l.find? fun f=>decide (f.nm=s)).map fun f=>f.params.length:=by
 unfold getC cntL
 rw [List.find?_map]
 simp only [Function.comp_def,Option.map_map]
theorem cnt_params (p:Pg) (s:Bs):getC (cntL p.funcs) s=paramsOf p s:=cnt_get _ _
theorem cnt_fresh (l:List Fu) (s:Bs) (h:(l.map Fu.nm).contains s=false):getC (cntL l) s=none:=by
 rw [cnt_get,List.find?_eq_none.2]
 ·rfl
 intro f hf hc
 have h1:f.nm=s:=by simpa using hc
 have h2:(l.map Fu.nm).contains s=true:=by rw [List.contains_iff_mem,<- h1];exact List.mem_map_of_mem hf
 rw [h2] at h;cases h
theorem cnt_snoc (l:List Fu) (f:Fu):cntL (l++[f])=cntL l++[(f.nm,f.params.length)]:=by simp [cntL]
theorem step_ne0 {ch ar:List Bs} {mn:Bool} {l s:List Bs} {x:In} {f:Flt} (h:stepM ch ar mn l s x=.error f):f.2 ≠ 0:=by
 unfold stepM at h
 split at h
 ·cases h;simp
 split at h
 ·split at h <;> cases h;simp
 split at h
 ·split at h <;> cases h;simp
 split at h
 ·split at h <;> cases h;simp
 split at h
 ·split at h
  ·cases h
  ·split at h <;> cases h;simp
 ·cases h
theorem body_ne0 {ch ar:List Bs} {mn:Bool}:∀ (c:List In) (l s:List Bs) (f:Flt),bodyM ch ar mn c l s=.error f->f.2 ≠ 0
 | [],_,_,_,h=>by cases h
 | x :: r,l,s,f,h=>by
  unfold bodyM at h
  cases e:stepM ch ar mn l s x with
  | error y=>rw [e] at h;cases h;exact step_ne0 e
  | ok q=>obtain ⟨a,b⟩:=q;rw [e] at h;exact body_ne0 r a b f h
theorem instrs_ne0 {ch ar:List Bs} {mn:Bool} {pos:Int × Int} {c:List In} {s:List Bs} {f:Flt} (h:instrsM ch ar mn pos c s=.error f):f.2 ≠ 0:=by
 unfold instrsM at h
 split at h
 ·cases h;simp
 ·exact body_ne0 _ _ _ _ h
theorem target_ne0 {p:Pg} {l:List Bs} {x:In} {f:Flt} (h:targetM p l x=some f):f.2 ≠ 0:=by
 unfold targetM at h
 split at h
 ·split at h <;> cases h;simp
 split at h
 ·split at h
  ·cases h;simp
  ·split at h <;> cases h;simp
 ·cases h
theorem targets_ne0 {p:Pg} {l:List Bs}:∀ (c:List In) (f:Flt),targetsM p l c=some f->f.2 ≠ 0
 | [],_,h=>by cases h
 | x :: r,f,h=>by
  unfold targetsM at h
  cases e:targetM p l x with
  | some y=>rw [e] at h;cases h;exact target_ne0 e
  | none=>rw [e] at h;exact targets_ne0 r f h
theorem targets_called {p:Pg} {lb:List Bs}:∀ l,targetsM p lb l=none->∀ x ∈ l,x.kind=4->x.nm ∈ namesP p
 | [],_,x,hx,_=>by cases hx
 | y :: r,h,x,hx,hk=>by
  unfold targetsM at h
  cases e:targetM p lb y with
  | some f=>rw [e] at h;cases h
  | none =>
   rw [e] at h
   rcases List.mem_cons.1 hx with hx | hx
   ·subst hx
    unfold targetM at e
    rw [if_neg (by omega),if_pos hk] at e
    unfold paramsOf at e
    cases e2:p.funcs.find? fun f=>decide (f.nm=x.nm) with
    | none=>rw [e2] at e;cases e
    | some f =>
     have h1:=List.find?_some e2
     exact List.mem_map.2 ⟨f,List.mem_of_find?_eq_some e2,by simpa using h1⟩
   ·exact targets_called r h x hx hk
theorem later_called {p:Pg}:∀ (l:List Fu) (ls:List (List Bs)),laterM p ls l=none->∀ f ∈ l,∀ x ∈ f.code,x.kind=4->x.nm ∈ namesP p
 | [],_,_,f,hf,_=>by cases hf
 | g :: r,ls,h,f,hf,x=>by
  unfold laterM at h
  cases e:targetsM p (ls.headD []) g.code with
  | some y=>rw [e] at h;cases h
  | none =>
   rw [e] at h
   rcases List.mem_cons.1 hf with hf | hf
   ·subst hf;exact targets_called f.code e x
   ·exact later_called r _ h f hf x
theorem closed_later {p:Pg} {ls:List (List Bs)} (h:laterM p ls p.funcs=none):Closed p:=by
 intro a b hb
 unfold callsM at hb
 obtain ⟨x,hx,rfl⟩:=List.mem_map.1 hb
 obtain ⟨hx1,hx2⟩:=List.mem_filter.1 hx
 unfold codeOf at hx1
 cases e:p.funcs.find? fun f=>decide (f.nm=a) with
 | none=>rw [e] at hx1;simp at hx1
 | some f =>
  rw [e] at hx1
  exact later_called p.funcs ls h f (List.mem_of_find?_eq_some e) x (by simpa using hx1) (by simpa using hx2)
theorem funcs_len {ch ar:List Bs}:∀ (l:List Fu) (seen:List Bs) (ls:List (List Bs)) (st:List Bs) (ls':List (List Bs)) (st':List Bs),funcsM ch ar seen ls st l=.ok (ls',st')->ls'.length=ls.length+l.length/\∀ f ∈ l,f.code.length<=1024
 | [],seen,ls,st,ls',st',h=>by cases h;exact ⟨rfl,by simp⟩
 | f :: r,seen,ls,st,ls',st',h=>by
  rw [funcsM_cons] at h
  split at h
  ·cases h
  split at h
  ·cases h
  split at h
  ·cases h
  cases e:declM f.pos [] f.params with
  | some x=>rw [e] at h;cases h
  | none =>
   rw [e] at h
   cases e2:instrsM ch ar false f.pos f.code st with
   | error x=>rw [e2] at h;cases h
   | ok q =>
    obtain ⟨a,b⟩:=q
    rw [e2] at h
    obtain ⟨h1,h2⟩:=funcs_len r _ _ _ _ _ h
    refine ⟨by rw [h1,List.length_append,List.length_cons];simp only [List.length_cons,List.length_nil];omega,fun g hg=>?_⟩
    rcases List.mem_cons.1 hg with hg | hg
    ·subst hg
     unfold instrsM at e2
     split at e2
     ·cases e2
     ·omega
    ·exact h2 g hg
theorem laterM_cons (p:Pg) (l:List Bs) (ls:List (List Bs)) (f:Fu) (r:List Fu):laterM p (l :: ls) (f :: r)=match targetsM p l f.code with | some x=>some x | none=>laterM p ls r:=rfl
theorem loopsAllM_cons (p:Pg) (f:Fu) (r:List Fu):loopsAllM p (f :: r)=if loopB p f.nm then some (f.pos,9) else loopsAllM p r:=rfl
theorem SlG.via {α:Type} {K:EK α} {v:Value} {l:List α} (h:SlG K (·<B) W v l) (hb:Below B w0 W) (hb':Below B w0 W'):SlG K (·<B) W' v l:=h.keep fun k hk=>⟨hk,(hb'.block k hk).trans (hb.block k hk).symm⟩
theorem Ck.label {w:World} {p:Option Addr} {n c:Nat} (h:Ck B w K (.slice p n c) rs S) (hn:rs.length=n) (hn':n<=1000) (h0:0<n):∃ b off,p=some ⟨b,off,none⟩/\∀ k (hk:k<S.labels.length),∃ r,w.cell? ⟨b,off+k,none⟩=some (.map (some r))/\NmS w r S.labels[k]:=by
 obtain ⟨b,off,e,_,hc⟩:=(h.lb.sl (by omega)).at (by omega)
 refine ⟨b,off,e,fun k hk=>?_⟩
 have hk':k<rs.length:=by rw [h.rl];exact hk
 obtain ⟨cs,h1,h2⟩:=hc k hk'
 subst h1
 exact ⟨rs[k],by have:=h2 0 _ rfl;simpa [kMap] using this,h.lm k hk hk'⟩
theorem Ck.label' {w:World} {b off n c:Nat} (h:Ck B w K (.slice (some ⟨b,off,none⟩) n c) rs S) (hn:rs.length=n) (hn':n<=1000) (k:Nat) (hk:k<S.labels.length):∃ r,w.cell? ⟨b,off+k,none⟩=some (.map (some r))/\NmS w r S.labels[k]:=by
 obtain ⟨b',off',e,h1⟩:=h.label hn hn' (by have:=h.rl;omega)
 cases e
 exact h1 k hk
theorem cellB {B:Nat} {w w':World} (h:Below B w w') {a:Addr} {v:Value} (hc:w.cell? a=some v) (hB:w.heap.size<=B):w'.cell? a=some v:=by
 have hlt:a.block<w.heap.size:=by
  unfold World.cell? at hc
  cases e:w.heap[a.block]? with
  | none=>simp [e] at hc
  | some o=>exact (Array.getElem?_eq_some_iff.1 e).1
 rw [h.cell (Nat.lt_of_lt_of_le hlt hB)];exact hc
theorem laterM_nil (p:Pg) (ls:List (List Bs)):laterM p ls []=none:=by cases ls <;> rfl
def RunPost (B:Nat) (p:Pg) (w:World) (e:Ending) (w':World):Prop:=(if (checkM p).2=0 then e=.returned (.tuple #[])/\checkM p=((0,0),0) else e=.panicked (fltC (checkM p)))/\Below B w w'
theorem RunPost.bad {p:Pg} {f:Flt} {w w':World} (h:checkM p=f) (h0:f.2 ≠ 0) (hb:Below B w w'):RunPost B p w (.panicked (fltC f)) w':=⟨by rw [h,if_neg h0],hb⟩
theorem RunPost.ok {p:Pg} {w w':World} (h:checkM p=((0,0),0)) (hb:Below B w w'):RunPost B p w (.returned (.tuple #[])) w':=⟨by rw [if_pos (by rw [h])];exact ⟨rfl,h⟩,hb⟩
structure PgOk (p:Pg):Prop where
 funcs:∀ f ∈ p.funcs,∀ x ∈ f.code,x.kind<=255/\x.op<=255
 main:∀ x ∈ p.main,x.kind<=255/\x.op<=255
end Go.Proofs.YtoofbgoeipijcaaGreatDoor
