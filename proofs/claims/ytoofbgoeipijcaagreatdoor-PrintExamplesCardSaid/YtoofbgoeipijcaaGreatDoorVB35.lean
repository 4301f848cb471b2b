/-
 A part.
-/
import Derived.ArgAppend
import Derived.Laws.MakeOwn
import Derived.Test.YtoofbgoeipijcaaGreatDoorVSPtI
namespace Go.Proofs.YtoofbgoeipijcaaGreatDoor
set_option linter.all false
open Go.RowKit Go.Shelf
attribute [local go_sem] Oper.semAt_some
def QU (B X:Nat) (t:TypeId) (w:World) (v:Value) (l:List Nat):Prop :=
 ∃ g off c cur,v=.slice (some ⟨g,off,none⟩) l.length c/\B<=g/\g ≠ X/\w.heap[g]?=some (.cells cur t (0,0))/\l.length<=c/\c<=maxLen/\off+c<=cur.size/\∀ j (h:j<l.length),cur[off+j]?=some (.int .i64 (l[j]:Int))
theorem QU.keep {B X:Nat} {t:TypeId} {w w':World} {v:Value} {l:List Nat} (h:QU B X t w v l) (hf:∀ k,k<w.heap.size->k ≠ X->w'.heap[k]?=w.heap[k]?):QU B X t w' v l:=by
 obtain ⟨g,off,c,cur,h1,h2,h3,h4,h5⟩:=h
 exact ⟨g,off,c,cur,h1,h2,h3,(hf g (Array.getElem?_eq_some_iff.1 h4).1 h3).trans h4,h5⟩
theorem QU.new {B X:Nat} (t:TypeId) (w:World) (x:Nat) (hB:B<=w.heap.size) (hX:X ≠ w.heap.size):QU B X t (w.alloc (.cells #[.int .i64 (x:Int)] t)) (.slice (some ⟨w.heap.size,0,none⟩) 1 1) [x] :=
 ⟨w.heap.size,0,1,#[.int .i64 (x:Int)],rfl,hB,fun e=>hX e.symm,by rw [heap_al,if_pos rfl],Nat.le_refl _,by unfold maxLen;omega,Nat.le_refl _,fun j h=>by
  obtain rfl:j=0:=by simp at h;omega
  rfl⟩
theorem QU.slc {B X:Nat} {t:TypeId} {w:World} {v:Value} {l:List Nat} (h:QU B X t w v l):∃ g off c,v=.slice (some ⟨g,off,none⟩) l.length c/\l.length<=c/\c<=maxLen:=by
 obtain ⟨g,off,c,cur,h1,h2,h3,h4,h5,h6,_⟩:=h
 exact ⟨g,off,c,h1,h5,h6⟩
theorem QU.at {B X:Nat} {t:TypeId} {w:World} {g off n c:Nat} {l:List Nat} (h:QU B X t w (.slice (some ⟨g,off,none⟩) n c) l) (j:Nat) (hj:j<l.length):w.cell? ⟨g,off+j,none⟩=some (.int .i64 (l[j]:Int)):=by
 obtain ⟨g',off',c',cur,h1,h2,h3,h4,h5,h6,h7,h8⟩:=h
 cases h1
 have:=h8 j hj
 simp [World.cell?,h4,this]
theorem QU.tail {B X:Nat} {t:TypeId} {w:World} {g off n c:Nat} {x:Nat} {l:List Nat} (h:QU B X t w (.slice (some ⟨g,off,none⟩) n c) (x :: l)):QU B X t w (.slice (some ⟨g,off+1,none⟩) l.length (c - 1)) l:=by
 obtain ⟨g',off',c',cur,h1,h2,h3,h4,h5,h6,h7,h8⟩:=h
 cases h1
 simp only [List.length_cons] at h5 h8
 refine ⟨g,off+1,c - 1,cur,rfl,h2,h3,h4,by omega,by omega,by omega,fun j hj=>?_⟩
 have:=h8 (j+1) (by omega)
 rw [show off+1+j=off+(j+1) by omega,this]
 rfl
theorem QU.tail0 {B X:Nat} {t:TypeId} {w:World} {g off n c:Nat} {x:Nat} {l:List Nat} (h:QU B X t w (.slice (some ⟨g,off,none⟩) n c) (x :: l)) (hc:c=1):l=[]/\QU B X t w (.slice (some ⟨g,off,none⟩) 0 0) []:=by
 obtain ⟨g',off',c',cur,h1,h2,h3,h4,h5,h6,h7,h8⟩:=h
 cases h1
 simp only [List.length_cons] at h5
 refine ⟨List.eq_nil_of_length_eq_zero (by omega),g,off,0,cur,rfl,h2,h3,h4,Nat.le_refl _,Nat.zero_le _,by omega,fun j hj=>absurd hj (by simp)⟩
theorem info_iG:(Tryz.prog.info? 3).map (fun i=>(i.zero,i.size,i.bytes))=some (some (.int .i64 0),1,8):=by kernel_rfl
theorem info_bG:(Tryz.prog.info? 4).map (fun i=>(i.zero,i.size,i.bytes))=some (some (.bool false),1,1):=by kernel_rfl
theorem make_runQ {P:Program} {t e:TypeId} {z:Value} {bytes:Nat} (ht:P.underlying t=some (.slice e))
  (hinfo:(P.info? e).map (fun i=>(i.zero,i.size,i.bytes))=some (some z,1,bytes)) (hzs:z.cells=#[z]) (n:Nat) (hb:bytes*n<=281474976710656) (hn:n<=281474976710656) (w:World) :
  (Instr.makeSlice t (.int .i64 (n:Int)) (.int .i64 (n:Int))).run P w=.ok (.slice (some ⟨w.heap.size,0,none⟩) n n) (w.alloc (.cells (Array.replicate n z) e)):=by
 obtain ⟨i,hi,hz,hs1,hby⟩:=info_parts hinfo
 have h:=run_make (P:=P) w t e i z ht hi hz .i64 .i64 (n:Int) (n:Int) (by omega) (Int.le_refl _) (by rw [hby];omega) (by omega)
 rw [h]
 simp only [Int.toNat_natCast,hs1,Nat.mul_one,hzs]
 have e:madeCells #[z] n=Array.replicate n z:=by
  apply Array.ext
  ·simp [madeCells]
  ·intro i h1 h2
   simp [madeCells,Nat.mod_one]
 rw [e]
section
variable {P:Program}
theorem wpList_pushQ {B X:Nat} {w:World} {v:Value} {l:List Nat} {x:Nat} {te:TypeId} {ops:Array Oper} {rest:List Oper} {o:Oper} {a:Act} {Q:Exit->Act->World->Prop}
  (hgd:o.guard=none) (s y:Operand) (t:TypeId) (ho:o.op=.call { callee := .builtin .append,args:=#[s,y],argTypes:=#[t,t] }) (ht:P.underlying t=some (.slice te))
  (hinfo:(P.info? te).map (fun i=>(i.zero,i.size,i.bytes))=some (some (.int .i64 0),1,8))
  (h:QU B X te w v l) (hs:a.eval s=v) (hy:a.eval y=.slice (some ⟨w.heap.size,0,none⟩) 1 1)
  (hl:l.length+1<=100000000) (hB:B<=w.heap.size) (hX:X<w.heap.size)
  (hK:∀ v' w',QU B X te w' v' (l++[x])->But (fun k=>B<=k/\k ≠ X) w w'->wpList P ops Q rest (a.put o.dst v') w') :
  wpList P ops Q (o :: rest) a (w.alloc (.cells #[.int .i64 (x:Int)] te)):=by
 obtain ⟨i,hi,hz,hs1,hby⟩:=info_parts hinfo
 obtain ⟨g,off,c,cur,rfl,h2,h3,h4,h5,h6,h7,h8⟩:=h
 have hgl:g<w.heap.size:=(Array.getElem?_eq_some_iff.1 h4).1
 have hg0:=h7
 have h4':(w.alloc (.cells #[.int .i64 (x:Int)] te)).heap[g]?=some (.cells cur te (0,0)):=by rw [heap_al,if_neg (by omega)];exact h4
 refine wpList_append_arg (w.alloc (.cells #[.int .i64 (x:Int)] te)) hgd s y t ho te i (.int .i64 0) 1 8 ht hi hz hs1 hby rfl (by omega) g off l.length c (l.map fun n:Nat=>Value.int .i64 (n:Int)) hs (by simp) ?_ ⟨w.heap.size,0,none⟩ 1 1 [.int .i64 (x:Int)] hy rfl ?_ (by intro u hu;rw [List.mem_singleton] at hu;subst hu;rfl) ?_ (by unfold maxLen;omega) (by omega) ?_ ?_
 ·intro j u hu
  obtain ⟨hj,rfl⟩:=List.getElem?_eq_some_iff.1 hu
  simp only [List.length_map] at hj
  have:=h8 j hj
  simp [World.cell?,h4',this]
 ·intro j u hu
  obtain ⟨hj,rfl⟩:=List.getElem?_eq_some_iff.1 hu
  obtain rfl:j=0:=by simp at hj;omega
  rw [show (⟨w.heap.size,0,none⟩:Addr).add 0=⟨w.heap.size,0,none⟩ by simp [Addr.add],cell_al];simp
 ·intro hr j hj
  obtain rfl:j=0:=by simp at hj;omega
  have hlt:off+l.length*1+0<cur.size:=by omega
  constructor
  ·have hlt3:off+l.length<cur.size:=by omega
   simp [World.cell?,h4',Array.getElem?_eq_getElem hlt3,hlt3]
  ·simp [World.frozen?,h4']
 ·intro hr
  have hlt2:off+l.length<cur.size:=by omega
  have hset:(w.alloc (.cells #[.int .i64 (x:Int)] te)).setCells g (off+l.length*1) [.int .i64 (x:Int)]=(w.alloc (.cells #[.int .i64 (x:Int)] te)).setCell ⟨g,off+l.length,none⟩ (.int .i64 (x:Int)):=by simp [World.setCells]
  rw [hset]
  refine hK _ _ ⟨g,off,c,cur.setIfInBounds (off+l.length) (.int .i64 (x:Int)),by simp,h2,h3,?_,by simp;omega,h6,by simpa using h7,?_⟩ ?_
  ·simp only [World.setCell,Array.getElem?_modify]
   rw [h4'];simp
  ·intro j hj
   rw [Array.getElem?_setIfInBounds]
   by_cases e:j=l.length
   ·subst e;rw [if_pos rfl,if_pos hlt2];simp
   ·have hj2:j<l.length:=by simp at hj;omega
    rw [if_neg (by omega),h8 j hj2,List.getElem_append_left hj2]
  ·refine ⟨rfl,rfl,rfl,?_,fun k hk hF=>?_⟩
   ·show w.heap.size<=(World.setCell _ _ _).heap.size
    rw [World.setCell];simp [sA]
   ·rw [heap_ot (fun e=>hF ⟨by omega,by omega⟩),heap_al,if_neg (by omega)]
 ·intro hg v' w' how hgr
  obtain ⟨hlen,h9⟩:=how
  rcases h9 with ⟨rfl,h0⟩ | ⟨g',cap,cur',rfl,hb',hg',hnc,hcm,hcs,ht'⟩
  ·omega
  ·rw [sA] at hb'
   refine hK _ _ ⟨g',0,cap,cur',by simp,by omega,by omega,hg',by simpa using hnc,hcm,by omega,?_⟩ ?_
   ·intro j hj
    have e1:(cur'.toList.take ((l.length+1)*1))[j]?=((l++[x]).map fun n:Nat=>Value.int .i64 (n:Int))[j]?:=by rw [ht'];simp
    rw [List.getElem?_take] at e1
    have hj2:j<l.length+1:=by simpa using hj
    rw [if_pos (by omega),List.getElem?_map,List.getElem?_eq_getElem hj] at e1
    rw [Nat.zero_add,<- Array.getElem?_toList,e1]
    rfl
   ·refine ⟨hgr.os,hgr.tape,hgr.output,Nat.le_trans (by rw [sA];omega) hgr.size,fun k hk _=>?_⟩
    rw [hgr.block k (by rw [sA];omega) (by intro e;cases e),heap_al,if_neg (by omega)]
end
theorem calls_cons (x:In) (r:List In):callsM (x :: r)=if x.kind=4 then x.nm :: callsM r else callsM r:=by
 unfold callsM
 by_cases h:x.kind=4
 ·rw [if_pos h,List.filter_cons_of_pos (by simpa using h)];rfl
 ·rw [if_neg h,List.filter_cons_of_neg (by simpa using h)]
theorem rpush_cons (p:Pg) (c:Bs) (r:List Bs) (out:List Bool) (todo:List Nat):rpush p (c :: r) out todo=match findM p c with
  | some g=>if out.getD g false then rpush p r out todo else rpush p r (out.set g true) (todo++[g])
  | none=>rpush p r out todo:=rfl
theorem rreach_cons (p:Pg) (k:Nat) (out:List Bool) (f:Nat) (t:List Nat):rreach p (k+1) out (f :: t)=rreach p k (rpush p (callsM (codeAt p f)) out t).1 (rpush p (callsM (codeAt p f)) out t).2:=rfl
theorem rreach_nil (p:Pg) (k:Nat) (out:List Bool):rreach p k out []=out:=by cases k <;> rfl
set_option maxRecDepth 100000 in
set_option maxHeartbeats 16000000 in
theorem rreaches_any (p:Pg) (a b c d:Value) (i:Nat) (w:World) (hp:PgV (·<w.heap.size) w a b c d p) (hi:i<p.funcs.length) (hl:RLen p) (hcl:∀ g (hg:g<p.funcs.length),∀ s ∈ callsM (p.funcs[g]).code,s ∈ namesP p) :
  Calls Tryz.prog 136 #[.agg #[.int .i64 p.width,a,b,c,d],.int .i64 (i:Int)] w fun e w'=>∃ u,e=.returned (.slice (some ⟨u,0,none⟩) p.funcs.length p.funcs.length)/\w'.cell? ⟨u,i,none⟩=some (.bool (rloopB p i))/\Below w.heap.size w w':=by
 obtain ⟨pa,ca,hva⟩:=hp.1.slc
 obtain ⟨pb,cb,hvb⟩:=hp.2.1.slc
 obtain ⟨pc,cc,hvc⟩:=hp.2.2.1.slc
 obtain ⟨pd,cd,hvd⟩:=hp.2.2.2.slc
 subst hva hvb hvc hvd
 have HP:=hid hp
 obtain ⟨RES,hRES⟩:∃ R,rreach p (2*p.funcs.length+3) (List.replicate p.funcs.length false) [i]=R:=⟨_,rfl⟩
 have HRES:=hid hRES
 have HLO:=hid (show rloopB p i=RES.getD i false from by unfold rloopB;rw [hRES])
 have HI:=hid hi;have HL:=hid hl;have HCALL:=hid hcl
 have HCF:=hid (show ∀ g (hg:g<p.funcs.length),(p.funcs[g]).code.length<=1000000 from fun g hg=>by have h:=hl.body g (by omega);unfold bodyAt at h;rw [dif_pos hg] at h;exact h)
 have HFN:=hid hl.funcs
 have hmk:=fun w=>make_runQ (P:=Tryz.prog) (t:=170) (by kernel_rfl) info_bG rfl p.funcs.length (by have:=hl.funcs;omega) (by have:=hl.funcs;omega) w
 clear hp hRES hcl hl
 obtain ⟨wo,hwo⟩:∃ W,w.alloc (.cells #[.int .i64 p.width,.slice pa p.chans.length ca,.slice pb p.arrays.length cb,.slice pc p.funcs.length cc,.slice pd p.main.length cd] 27)=W:=⟨_,rfl⟩
 have HWO:=hid hwo
 have HX:=hid (show BxL 27 w.heap.size [.int .i64 p.width,.slice pa p.chans.length ca,.slice pb p.arrays.length cb,.slice pc p.funcs.length cc,.slice pd p.main.length cd] wo from by rw [<- hwo];exact BxL.new _ _ _)
 have HB:=hid (show Below w.heap.size w wo from by rw [<- hwo];exact bA)
 have HG:=hid (show PgV (·<wo.heap.size) wo (.slice pa p.chans.length ca) (.slice pb p.arrays.length cb) (.slice pc p.funcs.length cc) (.slice pd p.main.length cd) p from HP.below HB.out)
 clear hwo
 obtain ⟨fb,fo,hpc,hRf,hcf⟩:=fu_at HG.2.2.1 (by omega:0<p.funcs.length)
 subst hpc
 have HCELLF:=hid hcf
 have HRF:=hid hRf
 clear hcf hRf hi
 obtain ⟨n0,n1,n2,n3,n4⟩:=HX.p5
 go_enter Tryz.func136,Tryz.ntmps136
 go_upto_region 1 with fail
 rw [HWO.out]
 go_wp2_with fail
 clear n0 n1 n2 n3 n4 hmk
 go_loopg [6,7,8,9] (2*p.funcs.length+3) (fun kf v6 v7 v8 v9 wr=>∃ (out:List Bool) (todo:List Nat),rreach p kf out todo=RES/\out.length=p.funcs.length/\(∀ t ∈ todo,t<p.funcs.length)/\2*out.count false+todo.length+1<=kf/\kf<=2*p.funcs.length+3/\BxL 4 wo.heap.size (out.map Value.bool) wr/\QU wo.heap.size wo.heap.size 3 wr v6 todo/\Below wo.heap.size wo wr)
 case atStart =>
  refine ⟨List.replicate p.funcs.length false,[i],HRES.out,by simp,by simpa using HI.out,?_,Nat.le_refl _,?_,?_,?_⟩
  ·rw [List.count_replicate];simp
  ·have h1:=(BxL.new 4 wo ((List.replicate p.funcs.length false).map Value.bool)).al (.cells #[.int .i64 (i:Int)] 3)
   have e:((List.replicate p.funcs.length false).map Value.bool).toArray=Array.replicate p.funcs.length (.bool false):=by simp
   rwa [e] at h1
  ·have h1:=QU.new (B:=wo.heap.size) (X:=wo.heap.size) 3 (wo.alloc (.cells (Array.replicate p.funcs.length (.bool false)) 4)) i (by rw [sA];omega) (by rw [sA];omega)
   rwa [sA] at h1
  ·exact (bA).alloc (by rw [sA];omega) _
 case round =>
  obtain ⟨out,todo,hrr,hol,htl,hfu,hf2,ho,hq,hbr⟩:=hrel
  obtain ⟨wi,rfl⟩:∃ wi:World,wi=wr:=⟨_,rfl⟩
  obtain ⟨g,off,c,rfl,hca,hcb⟩:=hq.slc
  rcases todo with _ | ⟨f,t⟩
  ·have HOU:=hid (show out=RES from by rw [<- hrr,rreach_nil])
   have HO:=hid ho;have HB2:=hid hbr;have HOL:=hid hol
   clear hrr hol htl hfu hf2 ho hq hbr hca hcb
   go_wp2_with fail
   go_ret
   refine ⟨_,rfl,HO.at i ?_,HB.trans (HB2.mono HB.size)⟩
   have h1:i<out.length:=by rw [HOL.out];exact HI.out
   rw [HLO.out,<- HOU.out,List.getElem?_map,List.getElem?_eq_getElem h1,List.getD_eq_getElem?_getD,List.getElem?_eq_getElem h1];rfl
  ·obtain ⟨k,rfl⟩:∃ k,gk=k+1:=⟨gk - 1,by omega⟩
   obtain ⟨N,hN⟩:∃ N,(f :: t).length=N:=⟨_,rfl⟩
   have hN1:N=t.length+1:=by rw [<- hN];rfl
   rw [hN] at hca hfu hq ⊢
   have hfn:f<p.funcs.length:=htl f (List.mem_cons_self ..)
   obtain ⟨pp,cp,pq,cq,hpar,hcode,_,_,e2,_,_⟩:=HCELLF.out f hfn
   have HPU:=hid (fun (cs:List Bs) (hcs:cs=callsM (codeAt p f))=>rpush_spec p cs out t hol (fun s hs=>by
    rw [hcs] at hs
    refine HCALL.out f hfn s ?_
    unfold codeAt at hs
    rw [List.getElem?_eq_getElem hfn] at hs
    exact hs))
   have HCA:=hid (show codeAt p f=(p.funcs[f]).code from by unfold codeAt;rw [List.getElem?_eq_getElem hfn];rfl)
   have HCL:=hid (HCF.out f hfn)
   have HCO:=hid hcode
   obtain ⟨code,hcd⟩:∃ code,(p.funcs[f]).code=code:=⟨_,rfl⟩
   rw [hcd] at HCA HCL HCO e2
   obtain ⟨nC,hnC⟩:∃ n,code.length=n:=⟨_,rfl⟩
   rw [hnC] at e2 HCO
   have HNC:=hid hnC
   have HQ:=hid hq;have HO:=hid ho;have HB2:=hid hbr;have HRR:=hid hrr;have HOL:=hid hol;have HTL:=hid htl;have HFU:=hid hfu;have HF2:=hid hf2;have HN1:=hid hN1
   have hS:(fun W=>W.cell? ⟨w.heap.size,3,none⟩=some (.slice (some ⟨fb,fo,none⟩) p.funcs.length cc)/\W.cell? ⟨g,off,none⟩=some (.int .i64 (f:Int))/\W.cell? ⟨fb,fo+f*5+2,none⟩=some (.slice pq nC cq)) wi.drew:=⟨(HX.bel hbr).at 3 rfl,by have h:=hq.at 0 (by simp);simpa using h,(hbr.cell (p:=⟨fb,fo+f*5+2,none⟩) HRF.out).trans e2⟩
   have h0N:0<N:=by omega
   clear hpar hcode hcd hnC e2 hq ho hbr hrr hol htl hfu hf2 hN hN1
   go_upto_region 4 with fail
   have hFa:=fT
   refine rgN (fun W=>W.cell? ⟨w.heap.size,3,none⟩=some (.slice (some ⟨fb,fo,none⟩) p.funcs.length cc)/\W.cell? ⟨g,off,none⟩=some (.int .i64 (f:Int))/\W.cell? ⟨fb,fo+f*5+2,none⟩=some (.slice pq nC cq)) 9 (by kernel_rfl) ?_
   simp only [zP,Nat.reduceAdd]
   iterate 8 (refine nxW (v:=?_) 9 hS ?_ ?_;rotate_left;(focus intro w' hS';obtain ⟨s0,s1,s2⟩:=hS';go_simp;try rfl);simp only [aP])
   refine oy 8 fun K hK=>?_
   go_simp
   refine hK _ _ (.inr (.inr hS)) (dN ?_)
   clear hK K
   simp only [onlyN,Exit.then]
   clear hFa
   clear hS
   go_upto_region 5 with fail
   go_cut [6] (fun s6 wx=>QU wo.heap.size wo.heap.size 3 wx s6 t/\wx=wi.drew)
   case first =>
    by_cases hc1:c=1
    ·obtain ⟨ht0,hq0⟩:=HQ.tail0 hc1
     have HQ0:=hid hq0
     have HT0:=hid ht0
     have hNN:N=1:=by have:=HN1.out;rw [ht0] at this;simpa using this
     clear hq0 ht0
     subst hc1
     subst hNN
     go_wp2_with fail
     go_meet
     case rel=>exact ⟨by rw [HT0.out];exact HQ0.out,rfl⟩
    ·have hq1:=HQ.tail
     have HQ1:=hid hq1
     obtain ⟨n',hn'⟩:∃ n',t.length=n':=⟨_,rfl⟩
     have HNN:=hid hn'
     have hNN:N=n'+1:=by have:=HN1.out;omega
     clear hq1 hn'
     subst hNN
     have hc2:1<c:=by omega
     have hc3:¬ c - 1=0:=by omega
     go_wp2_with fail
     go_meet
     case rel=>exact ⟨by have h:=HQ1.out;rw [HNN.out] at h;exact h,rfl⟩
   case rest =>
   obtain ⟨hq3,rfl⟩:=hcut
   have HQ3:=hid hq3
   have HT3:=hid (show ∀ x ∈ t,x<p.funcs.length from fun x hx=>HTL.out x (List.mem_cons_of_mem _ hx))
   have HTN:=hid (show t.length<=3000000 from by have h1:=HFU.out;have h2:=HF2.out;have h3:=HFN.out;have h4:=HN1.out;omega)
   clear hq3 hca hcb h0N
   go_wp2_with fail
   go_loopw [6,8,9] (fun v6 jv u9 ws=>∃ (j:Nat) (out2:List Bool) (todo2:List Nat),j<=nC/\jv=.int .i64 (j:Int)/\rpush p (callsM (code.drop j)) out2 todo2=rpush p (callsM code) out t/\out2.length=p.funcs.length/\(∀ x ∈ todo2,x<p.funcs.length)/\todo2.length<=t.length+j/\BxL 4 wo.heap.size (out2.map Value.bool) ws/\QU wo.heap.size wo.heap.size 3 ws v6 todo2/\Below wo.heap.size wo ws) (fun _ jv _ _=>nC - (intOf jv).toNat)
   case atStart=>exact ⟨0,out,t,Nat.zero_le _,rfl,by rw [List.drop_zero],HOL.out,HT3.out,Nat.le_refl _,HO.out,HQ3.out,HB2.drew⟩
   case round =>
    obtain ⟨ws,rfl⟩:∃ ws:World,ws=wr:=⟨_,rfl⟩
    obtain ⟨j,out2,todo2,hj,rfl,hrp,hol2,htl2,htn2,ho2,hq2,hbs⟩:=hrel
    have HOs:=hid ho2;have HBs:=hid hbs;have HOL2:=hid hol2;have HTL2:=hid htl2;have HTN2:=hid htn2;have HRP:=hid hrp
    clear ho2 hol2 htl2 htn2 hrp
    by_cases hlj:j<nC
    ·have HLJ:=hid hlj
     have hlt:j<code.length:=by rw [HNC.out];exact hlj
     obtain ⟨g6,o6,c6,rfl,hc6a,hc6b⟩:=hq2.slc
     have HQs:=hid hq2
     obtain ⟨kb,ko,rfl,hRk,hck⟩:=in_at HCO.out (by omega:0<code.length)
     obtain ⟨pi,ci,xx0,e0,xx1,xx2,e3,xx3,xx4,xx5⟩:=hck j hlt
     clear xx0 xx1 xx2 xx3 xx4 xx5
     have HE3:=hid e3;have HRK:=hid hRk
     replace e0:=(hbs.cell (p:=⟨kb,ko+j*7,none⟩) hRk).trans e0
     replace e3:ws.drew.cell? ⟨kb,ko+j*7+3,none⟩=_:=(hbs.cell (p:=⟨kb,ko+j*7+3,none⟩) hRk).trans e3
     have HRQ:=hid (show rpush p (callsM (code[j] :: code.drop (j+1))) out2 todo2=rpush p (callsM code) out t from by rw [<- List.drop_eq_getElem_cons hlt];exact HRP.out)
     clear hq2 hck hRk hbs hc6a hc6b
     generalize code[j]=x at *
     clear hlt
     by_cases hk4:x.kind=4
     ·replace e0:ws.cell? ⟨kb,ko+j*7,none⟩=some (.int .u8 4):=by rw [e0,hk4];rfl
      have HRS:=hid (show rpush p (x.nm :: callsM (code.drop (j+1))) out2 todo2=rpush p (callsM code) out t from by rw [<- HRQ.out,calls_cons,if_pos hk4])
      clear hk4 HRQ
      generalize x.nm=xn at *
      go_upto_region 10 with fail
      have hS:(fun W=>W.cell? ⟨w.heap.size,0,none⟩=some (.int .i64 p.width)/\W.cell? ⟨w.heap.size,1,none⟩=some (.slice pa p.chans.length ca)/\W.cell? ⟨w.heap.size,2,none⟩=some (.slice pb p.arrays.length cb)/\W.cell? ⟨w.heap.size,3,none⟩=some (.slice (some ⟨fb,fo,none⟩) p.funcs.length cc)/\W.cell? ⟨w.heap.size,4,none⟩=some (.slice pd p.main.length cd)/\W.cell? ⟨kb,ko+j*7+3,none⟩=some (.string ⟨xn.toArray⟩)) ws.drew:=⟨(HX.bel HBs.out).at 0 rfl,(HX.bel HBs.out).at 1 rfl,(HX.bel HBs.out).at 2 rfl,(HX.bel HBs.out).at 3 rfl,(HX.bel HBs.out).at 4 rfl,e3⟩
      clear e0 e3
      have HGD:=hid (HG.below HBs.drew)
      cases hfi:findM p xn with
      | none =>
       have HFI:=hid (show Calls Tryz.prog 173 #[.agg #[.int .i64 p.width,.slice pa p.chans.length ca,.slice pb p.arrays.length cb,.slice (some ⟨fb,fo,none⟩) p.funcs.length cc,.slice pd p.main.length cd],.string ⟨xn.toArray⟩] ws.drew (fun e w'=>e=.returned (.int .i64 (-1))/\Below ws.drew.heap.size ws.drew w') from by have h:=rfind_any p _ _ _ _ xn ws.drew HGD.out;rw [hfi] at h;exact h)
       have HRT:=hid (show rpush p (callsM (code.drop (j+1))) out2 todo2=rpush p (callsM code) out t from by rw [<- HRS.out,rpush_cons,hfi])
       clear hfi
       have hFa:=fT
       refine rgN (fun W=>W.cell? ⟨w.heap.size,0,none⟩=some (.int .i64 p.width)/\W.cell? ⟨w.heap.size,1,none⟩=some (.slice pa p.chans.length ca)/\W.cell? ⟨w.heap.size,2,none⟩=some (.slice pb p.arrays.length cb)/\W.cell? ⟨w.heap.size,3,none⟩=some (.slice (some ⟨fb,fo,none⟩) p.funcs.length cc)/\W.cell? ⟨w.heap.size,4,none⟩=some (.slice pd p.main.length cd)/\W.cell? ⟨kb,ko+j*7+3,none⟩=some (.string ⟨xn.toArray⟩)) 7 (by kernel_rfl) ?_
       simp only [zP,Nat.reduceAdd]
       refine wpHJ_take (v:=?v0) 0 hFa rfl (by kernel_rfl) nE (Or.inl ⟨by rfl,?y0⟩) hS ?r0
       case y0=>(rintro w' ⟨s0,s1,s2,s3,s4,s5⟩;go_simp;try rfl)
       simp only [aP]
       iterate 4 (refine npW (v:=?_) 8 (.inr hS) ?_ ?_;rotate_left;(focus intro w' _;go_simp;try rfl);simp only [aP])
       refine wpHJ_take (v:=?v1) 5 hFa rfl (by kernel_rfl) nE (Or.inl ⟨by rfl,?y1⟩) hS ?r1
       case y1=>(rintro w' ⟨s0,s1,s2,s3,s4,s5⟩;go_simp;try rfl)
       simp only [aP]
       refine oy 6 fun K hK=>?_
       go_simp
       (with_reducible refine (callsIn_wide.2 HFI.out).mono ?_)
       rintro e w5 ⟨rfl,hb5⟩
       have HB5:=hid (HBs.drew.trans (hb5.mono HBs.drew.size))
       have HO5:=hid ((show BxL 4 wo.heap.size (out2.map Value.bool) ws.drew from HOs.out).bel hb5)
       have HQ5:=hid (HQs.keep (w':=w5) fun k hk _=>hb5.block k hk)
       clear hb5
       have hS5:(fun W=>W.cell? ⟨w.heap.size,0,none⟩=some (.int .i64 p.width)/\W.cell? ⟨w.heap.size,1,none⟩=some (.slice pa p.chans.length ca)/\W.cell? ⟨w.heap.size,2,none⟩=some (.slice pb p.arrays.length cb)/\W.cell? ⟨w.heap.size,3,none⟩=some (.slice (some ⟨fb,fo,none⟩) p.funcs.length cc)/\W.cell? ⟨w.heap.size,4,none⟩=some (.slice pd p.main.length cd)/\W.cell? ⟨kb,ko+j*7+3,none⟩=some (.string ⟨xn.toArray⟩)) w5:=⟨(HX.bel HB5.out).at 0 rfl,(HX.bel HB5.out).at 1 rfl,(HX.bel HB5.out).at 2 rfl,(HX.bel HB5.out).at 3 rfl,(HX.bel HB5.out).at 4 rfl,(HB5.cell (p:=⟨kb,ko+j*7+3,none⟩) HRK.out).trans HE3.out⟩
       refine hK _ _ (.inr (.inr hS5)) ?_
       clear hK K
       refine oy 7 fun K hK=>?_
       go_simp
       refine hK _ _ (.inl rfl) (dN ?_)
       clear hK K
       simp only [onlyN,Exit.then]
       clear hFa
       clear hS hS5
       go_wp2_with fail
       go_roundw
       case rel=>exact ⟨j+1,out2,todo2,HLJ.out,by first | (rw [wrap_next HLJ.out (by have:=HCL.out;have:=HNC.out;omega)]) | rfl,HRT.out,HOL2.out,HTL2.out,by have:=HTN2.out;omega,HO5.out,HQ5.out,HB5.out⟩
       case measure=>first | exact meas_next HLJ.out (by have:=HCL.out;have:=HNC.out;omega) | (have h1:=HLJ.out;simp [intOf];omega)
      | some g2 =>
       have HFI:=hid (show Calls Tryz.prog 173 #[.agg #[.int .i64 p.width,.slice pa p.chans.length ca,.slice pb p.arrays.length cb,.slice (some ⟨fb,fo,none⟩) p.funcs.length cc,.slice pd p.main.length cd],.string ⟨xn.toArray⟩] ws.drew (fun e w'=>e=.returned (.int .i64 (g2:Int))/\Below ws.drew.heap.size ws.drew w') from by have h:=rfind_any p _ _ _ _ xn ws.drew HGD.out;rw [hfi] at h;exact h)
       have hg2:=find_lt hfi
       have HRT:=hid (show (if out2.getD g2 false then rpush p (callsM (code.drop (j+1))) out2 todo2 else rpush p (callsM (code.drop (j+1))) (out2.set g2 true) (todo2++[g2]))=rpush p (callsM code) out t from by rw [<- HRS.out,rpush_cons,hfi])
       clear hfi
       have hFa:=fT
       refine rgN (fun W=>W.cell? ⟨w.heap.size,0,none⟩=some (.int .i64 p.width)/\W.cell? ⟨w.heap.size,1,none⟩=some (.slice pa p.chans.length ca)/\W.cell? ⟨w.heap.size,2,none⟩=some (.slice pb p.arrays.length cb)/\W.cell? ⟨w.heap.size,3,none⟩=some (.slice (some ⟨fb,fo,none⟩) p.funcs.length cc)/\W.cell? ⟨w.heap.size,4,none⟩=some (.slice pd p.main.length cd)/\W.cell? ⟨kb,ko+j*7+3,none⟩=some (.string ⟨xn.toArray⟩)) 7 (by kernel_rfl) ?_
       simp only [zP,Nat.reduceAdd]
       refine wpHJ_take (v:=?v2) 0 hFa rfl (by kernel_rfl) nE (Or.inl ⟨by rfl,?y2⟩) hS ?r2
       case y2=>(rintro w' ⟨s0,s1,s2,s3,s4,s5⟩;go_simp;try rfl)
       simp only [aP]
       iterate 4 (refine npW (v:=?_) 8 (.inr hS) ?_ ?_;rotate_left;(focus intro w' _;go_simp;try rfl);simp only [aP])
       refine wpHJ_take (v:=?v3) 5 hFa rfl (by kernel_rfl) nE (Or.inl ⟨by rfl,?y3⟩) hS ?r3
       case y3=>(rintro w' ⟨s0,s1,s2,s3,s4,s5⟩;go_simp;try rfl)
       simp only [aP]
       refine oy 6 fun K hK=>?_
       go_simp
       (with_reducible refine (callsIn_wide.2 HFI.out).mono ?_)
       rintro e w5 ⟨rfl,hb5⟩
       have HB5:=hid (HBs.drew.trans (hb5.mono HBs.drew.size))
       have HO5:=hid ((show BxL 4 wo.heap.size (out2.map Value.bool) ws.drew from HOs.out).bel hb5)
       have HQ5:=hid (HQs.keep (w':=w5) fun k hk _=>hb5.block k hk)
       clear hb5
       have hS5:(fun W=>W.cell? ⟨w.heap.size,0,none⟩=some (.int .i64 p.width)/\W.cell? ⟨w.heap.size,1,none⟩=some (.slice pa p.chans.length ca)/\W.cell? ⟨w.heap.size,2,none⟩=some (.slice pb p.arrays.length cb)/\W.cell? ⟨w.heap.size,3,none⟩=some (.slice (some ⟨fb,fo,none⟩) p.funcs.length cc)/\W.cell? ⟨w.heap.size,4,none⟩=some (.slice pd p.main.length cd)/\W.cell? ⟨kb,ko+j*7+3,none⟩=some (.string ⟨xn.toArray⟩)) w5:=⟨(HX.bel HB5.out).at 0 rfl,(HX.bel HB5.out).at 1 rfl,(HX.bel HB5.out).at 2 rfl,(HX.bel HB5.out).at 3 rfl,(HX.bel HB5.out).at 4 rfl,(HB5.cell (p:=⟨kb,ko+j*7+3,none⟩) HRK.out).trans HE3.out⟩
       refine hK _ _ (.inr (.inr hS5)) ?_
       clear hK K
       refine oy 7 fun K hK=>?_
       go_simp
       refine hK _ _ (.inl rfl) (dN ?_)
       clear hK K
       simp only [onlyN,Exit.then]
       clear hFa
       clear hS hS5
       obtain ⟨ob,hob⟩:∃ ob,out2.getD g2 false=ob:=⟨_,rfl⟩
       rw [hob] at HRT
       have hg3:g2<out2.length:=by rw [HOL2.out];exact hg2
       have c5:w5.cell? ⟨wo.heap.size,g2,none⟩=some (.bool ob):=HO5.at g2 (by rw [List.getElem?_map,List.getElem?_eq_getElem hg3,<- hob,List.getD_eq_getElem?_getD,List.getElem?_eq_getElem hg3];rfl)
       clear hob hg3
       have hg0:decide ((0:Int)<=(g2:Int))=true:=by simp
       cases ob with
       | true =>
        go_wp2_with fail
        go_roundw
        case rel=>exact ⟨j+1,out2,todo2,HLJ.out,by first | (rw [wrap_next HLJ.out (by have:=HCL.out;have:=HNC.out;omega)]) | rfl,HRT.out,HOL2.out,HTL2.out,by have:=HTN2.out;omega,HO5.out,HQ5.out,HB5.out⟩
        case measure=>first | exact meas_next HLJ.out (by have:=HCL.out;have:=HNC.out;omega) | (have h1:=HLJ.out;simp [intOf];omega)
       | false =>
        have f5:w5.frozen? ⟨wo.heap.size,g2,none⟩=false:=HO5.fr g2
        have HO6:=hid (HO5.set g2 (.bool true))
        have HQ6:=hid (HQ5.keep (w':=w5.setCell ⟨wo.heap.size,g2,none⟩ (.bool true)) fun k _ hk=>heap_ot hk _)
        have HB6:=hid (HB5.setCell (p:=⟨wo.heap.size,g2,none⟩) lrf (.bool true))
        have HG2:=hid hg2
        go_wp2_with (at_builtin;refine wpList_pushQ (x:=g2) (te:=3) rfl _ _ 49 rfl Tryz.underlying49 info_iG HQ6.out rfl (by first | rfl | (simp only [World.size_setCell];rfl) | (simp only [World.size_setCell,Act.eval];rfl)) (by have h1:=HTN2.out;have h2:=HTN.out;have h3:=HCL.out;rw [HNC.out] at h3;have:=HLJ.out;omega) (Nat.le_of_lt HO6.out.lt) HO6.out.lt ?_;intro v7 w7 hq7 hb7;obtain ⟨g7,o7,c7,rfl,_,_⟩:=hq7.slc;have HQ7:=hid hq7;have HO7:=hid (HO6.out.keep (hb7.block _ HO6.out.lt (fun e=>e.2 rfl)));have HB7:=hid (HB6.out.trans (hb7.below HB6.out.size fun k hk=>hk.1));clear hq7 hb7)
        go_roundw
        case rel=>exact ⟨j+1,out2.set g2 true,todo2++[g2],HLJ.out,by first | (rw [wrap_next HLJ.out (by have:=HCL.out;have:=HNC.out;omega)]) | rfl,HRT.out,by rw [List.length_set];exact HOL2.out,fun x hx=>by rcases List.mem_append.1 hx with h | h;exact HTL2.out x h;rw [List.mem_singleton.1 h];exact HG2.out,by rw [List.length_append];have:=HTN2.out;simp;omega,by rw [List.map_set];exact HO7.out,by have h:=HQ7.out;rw [List.length_append] at h;exact h,HB7.out⟩
        case measure=>first | exact meas_next HLJ.out (by have:=HCL.out;have:=HNC.out;omega) | (have h1:=HLJ.out;simp [intOf];omega)
     ·have hwd:((x.kind:Int) != 4)=true:=by rw [bne_iff_ne];omega
      have hwe:((x.kind:Int) == 4)=false:=by rw [beq_eq_false_iff_ne];omega
      have HRT:=hid (show rpush p (callsM (code.drop (j+1))) out2 todo2=rpush p (callsM code) out t from by rw [<- HRQ.out,calls_cons,if_neg hk4])
      clear hk4
      go_wp2_with fail
      go_roundw
      case rel=>exact ⟨j+1,out2,todo2,HLJ.out,by first | (rw [wrap_next HLJ.out (by have:=HCL.out;have:=HNC.out;omega)]) | rfl,HRT.out,HOL2.out,HTL2.out,by have:=HTN2.out;omega,HOs.out,HQs.out,HBs.out⟩
      case measure=>first | exact meas_next HLJ.out (by have:=HCL.out;have:=HNC.out;omega) | (have h1:=HLJ.out;simp [intOf];omega)
    ·obtain rfl:j=nC:=by omega
     have HRD:=hid (show rpush p (callsM code) out t=(out2,todo2) from by
      rw [<- HRP.out,List.drop_of_length_le (Nat.le_of_eq HNC.out)];rfl)
     have HQs:=hid hq2
     obtain ⟨g6,o6,c6,rfl,hc6a,hc6b⟩:=hq2.slc
     clear hlj hq2 hbs hc6a hc6b
     go_wp2_with fail
     obtain ⟨new,h1,h2,h3,h4,h5,h6⟩:=HPU.out _ rfl
     rw [HCA.out,HRD.out] at h1 h2 h3
     simp only at h1 h2 h3
     have hfu:=HFU.out
     have hf2:=HF2.out
     have hN1:=HN1.out
     go_roundg k
     case measure=>omega
     case rel =>
      refine ⟨out2,todo2,?_,HOL2.out,HTL2.out,?_,by omega,HOs.out,HQs.out,HBs.out⟩
      ·rw [<- HRR.out,rreach_cons,HCA.out,HRD.out]
      ·have:=congrArg List.length h1
       rw [List.length_append] at this
       omega
end Go.Proofs.YtoofbgoeipijcaaGreatDoor
