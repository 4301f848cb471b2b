/-
 A part.
-/
import Derived.Test.YtoofbgoeipijcaaGreatDoorVB9
import Derived.Deep.DeepCutAuto
namespace Go.Proofs.YtoofbgoeipijcaaGreatDoor
set_option maxRecDepth 100000
set_option maxHeartbeats 4000000
set_option linter.all false
open Go.RowKit Go.Shelf
attribute [local go_sem] Oper.semAt_some
theorem info_strG:(Tryz.prog.info? 9).map (fun i=>(i.zero,i.size,i.bytes))=some (some (.string ⟨#[]⟩),kStr.n,16):=by kernel_rfl
theorem calls_snoc (l:List In) (k:Nat) (hk:k<l.length):callsM (l.take (k+1))=callsM (l.take k)++if l[k].kind=4 then [l[k].nm] else []:=by
 unfold callsM
 rw [List.take_succ_eq_append_getElem hk,List.filter_append,List.map_append]
 congr 1
 by_cases h:l[k].kind=4
 ·simp [h]
 ·simp [h]
theorem calls_len (l:List In):(callsM l).length<=l.length:=by
 unfold callsM;rw [List.length_map];exact List.length_filter_le _ _
theorem calls_any (l:List In) (v:Value) (w:World) (h:SlG kIn (·<w.heap.size) w v l) (hl:l.length<=100000) :
  Calls Tryz.prog 159 #[v] w fun e w'=>∃ v',e=.returned v'/\GA kStr w.heap.size 9 w' v' (callsM l)/\Below w.heap.size w w':=by
 obtain ⟨p,c,rfl⟩:=h.slc
 have HS:=hid h;have HL:=hid hl
 clear h hl
 go_enter Tryz.func159,Tryz.ntmps159
 go_wp2
 go_loopw [3,8] (fun ov iv wr=>∃ k:Nat,k<=l.length/\iv=.int .i64 (k:Int)/\GA kStr w.heap.size 9 wr ov (callsM (l.take k))/\Below w.heap.size w wr) (fun _ iv _=>l.length - (intOf iv).toNat)
 case atStart=>exact ⟨0,Nat.zero_le _,rfl,GA.nil _ _ _ _,Below.refl _ _⟩
 case round =>
  obtain ⟨k,hk,rfl,hga,hbr⟩:=hrel
  obtain ⟨po,co,rfl⟩:=hga.slc
  by_cases hlt:k<l.length
  ·obtain ⟨b,off,rfl,hR,hcells⟩:=in_at HS.out (by omega:0<l.length)
   obtain ⟨pa,ca,hsa,c0,c1,c2,c3,c4,c5,c6⟩:=hcells k hlt
   have d0:=(hbr.cell (p:=⟨b,off+k*7,none⟩) hR).trans c0
   have d1:=(hbr.cell (p:=⟨b,off+k*7+1,none⟩) hR).trans c1
   have d2:=(hbr.cell (p:=⟨b,off+k*7+2,none⟩) hR).trans c2
   have d3:=(hbr.cell (p:=⟨b,off+k*7+3,none⟩) hR).trans c3
   have d4:=(hbr.cell (p:=⟨b,off+k*7+4,none⟩) hR).trans c4
   have d5:=(hbr.cell (p:=⟨b,off+k*7+5,none⟩) hR).trans c5
   have d6:=(hbr.cell (p:=⟨b,off+k*7+6,none⟩) hR).trans c6
   have HSN:=hid (calls_snoc l k hlt)
   have HCL:=hid (show (callsM (l.take k)).length<=100000 from by have h1:=calls_len (l.take k);have h2:=HL.out;rw [List.length_take] at h1;omega)
   have HLT:=hid hlt;have HBR:=hid hbr;have HGA:=hid hga
   clear hcells hsa c0 c1 c2 c3 c4 c5 c6 hR hbr hga
   generalize l[k]=x at *
   go_upto_if 14 with fail
   obtain ⟨wo,hwo⟩:∃ W,wr.alloc (.cells #[.int .u8 (x.kind:Int),.int .u8 (x.op:Int),.string ⟨x.dst.toArray⟩,.string ⟨x.nm.toArray⟩,.slice pa x.args.length ca,.int .i64 x.pos.1,.int .i64 x.pos.2] 41)=W:=⟨_,rfl⟩
   have hbo:Below wr.heap.size wr wo:=by rw [<- hwo];exact bA
   have hbx:BxL 41 wr.heap.size (inL x (.slice pa x.args.length ca)) wo:=by rw [<- hwo];exact BxL.new _ _ _
   rw [hwo]
   have n3:wo.cell? ⟨wr.heap.size,3,none⟩=some (.string ⟨x.nm.toArray⟩):=hbx.at 3 rfl
   have HBO:=hid (HBR.trans (hbo.mono HBR.size))
   have HGO:=hid (HGA.keep hbo)
   clear hwo hbo hbx d0 d1 d2 d3 d4 d5 d6 hlt
   by_cases h4:x.kind=4
   ·have t4:((x.kind:Int) == 4)=true:=by rw [h4];rfl
    have HSN4:=hid (HSN.trans (by rw [if_pos h4]))
    clear h4
    go_wp2_with (at_builtin;refine wpList_push (K:=kStr) (x:=x.nm) (cs:=[.string ⟨x.nm.toArray⟩]) (te:=9) rfl _ _ 22 rfl Tryz.underlying22 _ 16 info_strG rfl HGO.out rfl rfl rfl (by have:=HCL.out;omega) (by have:=HCL.out;unfold maxLen;omega) HBO.out.size ?_;intro v5 w5 hg5 hgr5 hm5;have HG5:=hid hg5;have HB5:=hid (below_push HGO.out HBO.out hgr5 HBO.out.size);clear hg5 hgr5 hm5)
    go_roundw
    case rel=>exact ⟨k+1,HLT.out,by rw [wrap_next HLT.out HS.len],by rw [HSN4.out];exact HG5.out,HB5.out⟩
    case measure=>exact meas_next HLT.out HS.len
   ·have t4:((x.kind:Int) == 4)=false:=by simp;omega
    have HSN4:=hid (HSN.trans (by rw [if_neg h4,List.append_nil]))
    clear h4
    go_wp2_with fail
    go_roundw
    case rel=>exact ⟨k+1,HLT.out,by rw [wrap_next HLT.out HS.len],by rw [HSN4.out];exact HGO.out,HBO.out⟩
    case measure=>exact meas_next HLT.out HS.len
  ·obtain rfl:k=l.length:=by omega
   have HBR:=hid hbr;have HGA:=hid hga
   clear hlt hbr hga
   go_wp2_with fail
   go_ret
   have hga:=HGA.out
   rw [List.take_length] at hga
   refine ⟨_,rfl,?_,HBR.out⟩
   simpa using hga
theorem nodup_le {α:Type} [DecidableEq α]:∀ (l m:List α),l.Nodup->(∀ x ∈ l,x ∈ m)->l.length<=m.length
 | [],m,_,_=>Nat.zero_le _
 | x :: r,m,hn,hs=>by
  have hx:=hs x (List.mem_cons_self ..)
  have hn':=List.nodup_cons.1 hn
  have h:=nodup_le r (m.erase x) hn'.2 fun y hy=>by
   have hne:y ≠ x:=fun e=>hn'.1 (e ▸ hy)
   exact (List.mem_erase_of_ne hne).2 (hs y (List.mem_cons_of_mem _ hy))
  rw [List.length_erase_of_mem hx] at h
  have:0<m.length:=List.length_pos_of_mem hx
  simp only [List.length_cons]
  omega
def namesP (p:Pg):List Bs:=p.funcs.map Fu.nm
def Closed (p:Pg):Prop:=∀ a,∀ b ∈ callsM (codeOf p a),b ∈ namesP p
theorem push_spec (name:Bs):∀ (gs seen todo:List Bs),seen.Nodup ->
  (pushM name gs seen todo).1=true/\name ∈ gs \/
  (pushM name gs seen todo).1=false/\name ∉ gs/\∃ new:List Bs,(pushM name gs seen todo).2.1=seen++new/\(pushM name gs seen todo).2.2=todo++new/\(seen++new).Nodup/\(∀ x ∈ new,x ∈ gs)/\∀ x ∈ gs,x ∈ seen++new
 | [],seen,todo,hn => .inr ⟨rfl,by simp,[],by simp [pushM],by simp [pushM],by simpa using hn,by simp,by simp⟩
 | g :: r,seen,todo,hn=>by
  unfold pushM
  by_cases c1:g=name
  ·left;rw [if_pos c1];exact ⟨rfl,by rw [c1];exact List.mem_cons_self ..⟩
  rw [if_neg c1]
  by_cases c2:seen.contains g=true
  ·rw [if_pos c2]
   rcases push_spec name r seen todo hn with ⟨h1,h2⟩ | ⟨h1,h2,new,h3,h4,h5,h6,h7⟩
   ·exact .inl ⟨h1,List.mem_cons_of_mem _ h2⟩
   ·refine .inr ⟨h1,fun h=>?_,new,h3,h4,h5,fun x hx=>List.mem_cons_of_mem _ (h6 x hx),fun x hx=>?_⟩
    ·rcases List.mem_cons.1 h with h | h
     ·exact c1 h.symm
     ·exact h2 h
    ·rcases List.mem_cons.1 hx with h | h
     ·rw [h];exact List.mem_append_left _ (List.contains_iff_mem.1 c2)
     ·exact h7 x h
  ·rw [if_neg c2]
   have hnm:g ∉ seen:=fun h=>c2 (List.contains_iff_mem.2 h)
   have hn2:(seen++[g]).Nodup:=by
    rw [List.nodup_append]
    exact ⟨hn,by simp,fun a ha b hb e=>by rw [List.mem_singleton] at hb;rw [e,hb] at ha;exact hnm ha⟩
   rcases push_spec name r (seen++[g]) (todo++[g]) hn2 with ⟨h1,h2⟩ | ⟨h1,h2,new,h3,h4,h5,h6,h7⟩
   ·exact .inl ⟨h1,List.mem_cons_of_mem _ h2⟩
   ·refine .inr ⟨h1,fun h=>?_,g :: new,by rw [h3];simp,by rw [h4];simp,by simpa using h5,fun x hx=>?_,fun x hx=>?_⟩
    ·rcases List.mem_cons.1 h with h | h
     ·exact c1 h.symm
     ·exact h2 h
    ·rcases List.mem_cons.1 hx with h | h
     ·rw [h];exact List.mem_cons_self ..
     ·exact List.mem_cons_of_mem _ (h6 x h)
    ·rcases List.mem_cons.1 hx with h | h
     ·rw [h];simp
     ·have:=h7 x h;simpa using this
def codeAt (p:Pg) (i:Nat):List In:=((p.funcs[i]?).map Fu.code).getD []
theorem clos_any (f:Fu) (s:Bs) (pp pc:Option Addr) (cp cc b:Nat) (w:World) (hb:w.cell? ⟨b,0,none⟩=some (.string ⟨s.toArray⟩)) :
  Calls Tryz.prog 158 #[.agg #[.string ⟨f.nm.toArray⟩,.slice pp f.params.length cp,.slice pc f.code.length cc,.int .i64 f.pos.1,.int .i64 f.pos.2],.pointer (some ⟨b,0,none⟩)] w fun e w'=>e=.returned (.bool (decide (f.nm=s)))/\Below w.heap.size w w':=by
 have hbo:∀ o,(w.alloc o).cell? ⟨b,0,none⟩=some (.string ⟨s.toArray⟩):=fun o=>(((Below.refl w.heap.size w).alloc lrf o).cell (p:=⟨b,0,none⟩) (cell_size hb)).trans hb
 clear hb
 obtain ⟨n,hn⟩:∃ n,f.nm=n:=⟨_,rfl⟩
 rw [hn]
 by_cases h:n=s
 ·subst h
  have t1:(n == n)=true:=beq_self_eq_true n
  have HD:=hid (decide_eq_true (rfl:n=n))
  clear hn
  go_enter Tryz.func158,Tryz.ntmps158
  go_wp2
  go_ret
  exact ⟨by first | rfl | (rw [HD.out];rfl),bA⟩
 ·have t1:(n == s)=false:=beq_eq_false_iff_ne.2 h
  have HD:=hid (decide_eq_false h)
  clear h hn
  go_enter Tryz.func158,Tryz.ntmps158
  go_wp2
  go_ret
  exact ⟨by first | rfl | (rw [HD.out];rfl),bA⟩
def idxGo (s:Bs):List Fu->Nat->Int
 | [],_ => -1
 | f :: r,k=>if f.nm=s then (k:Int) else idxGo s r (k+1)
def idxM (p:List Fu) (s:Bs):Int:=idxGo s p 0
theorem idx_find (s:Bs):∀ (l:List Fu) (k:Nat),s ∈ l.map Fu.nm->∃ i,∃ h:i<l.length,idxGo s l k=((k+i:Nat):Int)/\l.find? (fun f=>decide (f.nm=s))=some l[i]
 | [],_,h=>by simp at h
 | f :: r,k,h=>by
  unfold idxGo
  by_cases e:f.nm=s
  ·exact ⟨0,by simp,by rw [if_pos e];rfl,by simp [e]⟩
  ·rw [if_neg e]
   have h':s ∈ r.map Fu.nm:=by
    rw [List.map_cons,List.mem_cons] at h
    exact h.resolve_left fun h=>e h.symm
   obtain ⟨i,hi,h1,h2⟩:=idx_find s r (k+1) h'
   exact ⟨i+1,by simp;omega,by rw [h1];congr 1;omega,by simp [e,h2]⟩
theorem idx_any (l:List Fu) (s:Bs) (v:Value) (b:Nat) (w:World) (h:SlG kFu (·<w.heap.size) w v l) (hb:w.cell? ⟨b,0,none⟩=some (.string ⟨s.toArray⟩)) :
  Calls Tryz.prog 157 #[v,.func (.func 158) #[] #[.pointer (some ⟨b,0,none⟩)]] w fun e w'=>e=.returned (.int .i64 (idxM l s))/\Below w.heap.size w w':=by
 obtain ⟨p,c,rfl⟩:=h.slc
 have HS:=hid h;have HL:=hid h.len;have HB:=hid hb
 have HM:=hid (show idxM l s=idxGo s (l.drop 0) 0 from rfl)
 clear h hb
 go_enter Tryz.func157,Tryz.ntmps157
 go_wp2
 go_loopw [4,5,8] (fun v4 v5 iv wr=>∃ k:Nat,k<=l.length/\iv=.int .i64 (k:Int)/\idxM l s=idxGo s (l.drop k) k/\Below w.heap.size w wr) (fun _ _ iv _=>l.length - (intOf iv).toNat)
 case atStart=>exact ⟨0,Nat.zero_le _,rfl,HM.out,Below.refl _ _⟩
 case round =>
  obtain ⟨k,hk,rfl,hm,hbr⟩:=hrel
  by_cases hlt:k<l.length
  ·obtain ⟨b0,off,rfl,hR,hcells⟩:=fu_at HS.out (by omega:0<l.length)
   obtain ⟨pp,cp,pc,cc,hsp,hsc,c0,c1,c2,c3,c4⟩:=hcells k hlt
   have d0:=(hbr.cell (p:=⟨b0,off+k*5,none⟩) hR).trans c0
   have d1:=(hbr.cell (p:=⟨b0,off+k*5+1,none⟩) hR).trans c1
   have d2:=(hbr.cell (p:=⟨b0,off+k*5+2,none⟩) hR).trans c2
   have d3:=(hbr.cell (p:=⟨b0,off+k*5+3,none⟩) hR).trans c3
   have d4:=(hbr.cell (p:=⟨b0,off+k*5+4,none⟩) hR).trans c4
   have HBC:=hid ((hbr.cell (p:=⟨b,0,none⟩) (cell_size HB.out)).trans HB.out)
   have HM2:=hid (hm.trans (by rw [List.drop_eq_getElem_cons hlt,idxGo]))
   have HLT:=hid hlt;have HBR:=hid hbr
   clear hcells hsp hsc c0 c1 c2 c3 c4 hR hbr hm
   generalize l[k]=f at *
   have HCL:=hid (clos_any f s pp pc cp cc b wr HBC.out)
   by_cases hf:f.nm=s
   ·have HR:=hid (HM2.trans (if_pos hf))
    rw [decide_eq_true hf] at HCL
    clear hf hlt
    go_wp2_with (go_at_call 158;with_reducible refine HCL.out.mono ?_;rintro e w2 ⟨rfl,hb2⟩;have HB2:=hid (HBR.out.trans (hb2.mono HBR.out.size));clear hb2)
    go_ret
    exact ⟨by rw [HR.out];rfl,HB2.out⟩
   ·have HR:=hid (HM2.trans (if_neg hf))
    rw [decide_eq_false hf] at HCL
    clear hf hlt
    go_wp2_with (go_at_call 158;with_reducible refine HCL.out.mono ?_;rintro e w2 ⟨rfl,hb2⟩;have HB2:=hid (HBR.out.trans (hb2.mono HBR.out.size));clear hb2)
    go_roundw
    case rel=>exact ⟨k+1,HLT.out,by rw [wrap_next HLT.out HL.out],HR.out,HB2.out⟩
    case measure=>exact meas_next HLT.out HL.out
  ·obtain rfl:k=l.length:=by omega
   have HR:=hid (show idxM l s = -1 from by rw [hm,List.drop_length];rfl)
   have HBR:=hid hbr
   clear hlt hbr hm
   go_wp2_with fail
   go_ret
   exact ⟨by rw [HR.out];rfl,HBR.out⟩
theorem GA.pop {α:Type} {K:EK α} {B e:Nat} {w:World} {p:Option Addr} {n N c:Nat} {l:List α} {x:α} (h:GA K B e w (.slice p N c) (l++[x])) (hn:l.length=n):GA K B e w (.slice p n c) l:=by
 obtain ⟨css,h1,h2⟩:=h.row
 have hl:(l++[x]).length=n+1:=by simp [hn]
 have hln:=h1.lens
 have hcl:css.length=n+1:=by rw [h1.1,hl]
 have ht:=h1.take n
 rw [List.take_left' hn] at ht
 have hob:(Value.slice p N c).ownBlock=(Value.slice p n c).ownBlock:=by cases p <;> rfl
 refine ⟨⟨css.take n,?_,?_⟩⟩
 ·rw [<- hob];exact ht
 ·obtain ⟨hlen,h3⟩:=h2
  refine ⟨?_,?_⟩
  ·rw [hln.take,List.length_take,hln.len,hcl,hn]
   exact Nat.min_eq_left (Nat.mul_le_mul_right _ (by omega))
  ·rcases h3 with ⟨h0,h0'⟩ | ⟨g,cap,cur,hv,hb,hg,hnc,hcm,hcs,htk⟩
   ·exfalso;rw [hl] at h0';omega
   ·rw [hl] at hnc htk hv
    cases hv
    refine .inr ⟨g,c,cur,by rw [hn],hb,hg,by omega,hcm,hcs,?_⟩
    rw [hln.take,<- htk,List.take_take,hn]
    congr 1
    exact (Nat.min_eq_left (Nat.mul_le_mul_right _ (by omega))).symm
theorem GA.slcN {α:Type} {K:EK α} {B e:Nat} {w:World} {v:Value} {l:List α} (h:GA K B e w v l) {N:Nat} (hN:l.length=N):∃ p c,v=.slice p N c/\N<=c/\c<=maxLen:=by
 obtain ⟨css,h1,h2⟩:=h.row
 rcases h2.2 with ⟨rfl,h0⟩ | ⟨g,cap,cur,rfl,hb,hg,hnc,hcm,_⟩
 ·exact ⟨none,0,by rw [<- hN,h0],by omega,by unfold maxLen;omega⟩
 ·exact ⟨_,cap,by rw [hN],by omega,hcm⟩
theorem GA.lit1 {α:Type} {K:EK α} {B:Nat} (w:World) (te:TypeId) {cs:List Value} {x:α} (hx:K.E (fun k=>k<w.heap.size) w cs x) (hB:B<=w.heap.size):GA K B te (w.alloc (.cells cs.toArray te)) (.slice (some ⟨w.heap.size,0,none⟩) 1 1) [x]:=by
 refine ⟨⟨[cs],⟨rfl,fun i hi hi'=>?_⟩,?_⟩⟩
 ·obtain rfl:i=0:=by simp at hi;omega
  refine K.keep hx fun k hk=>⟨⟨by rw [sA];omega,fun e=>?_⟩,by rw [heap_al,if_neg (by omega)]⟩
  have:w.heap.size=k:=by injection e
  omega
 ·refine ⟨by simp [K.len hx],.inr ⟨w.heap.size,1,cs.toArray,rfl,hB,by rw [heap_al,if_pos rfl],Nat.le_refl _,by unfold maxLen;omega,by simp [K.len hx],?_⟩⟩
  simp [K.len hx]
  exact List.take_of_length_le (by rw [K.len hx];exact Nat.le_refl _)
theorem GA.slStr {B e:Nat} {w:World} {v:Value} {l:List Bs} (h:GA kStr B e w v l) (hl:l.length<=140737488355328):SlG kStr (fun k=>B<=k/\k<w.heap.size) w v l:=by
 obtain ⟨css,h1,p,c,hv,h2,h3,h4,h5⟩:=h.sl hl
 refine ⟨css,⟨h1.1,fun i hi hi'=>h1.2 i hi hi'⟩,p,c,hv,h2,h3,h4,?_⟩
 rcases h5 with h5 | ⟨b,off,hp,hR,hc⟩
 ·exact .inl h5
 ·subst hp
  have:=(h.lt b (by rw [hv];rfl)).1
  exact .inr ⟨b,off,rfl,⟨this,hR⟩,hc⟩
theorem GA.keepBut {B e:Nat} {w w':World} {v:Value} {l:List Bs} {r:Nat} {d:List Ent} (h:GA kStr B e w v l) (hs:w.heap.size<=w'.heap.size) (hf:∀ q,q<w.heap.size->q ≠ r->w'.heap[q]?=w.heap[q]?) (hm:MapS w r d):GA kStr B e w' v l:=by
 obtain ⟨css,h1,h2⟩:=h.row
 exact ⟨⟨css,⟨h1.1,fun i hi hi'=>h1.2 i hi hi'⟩,owns_keepG h2 fun j hj=>hf j (h2.lt j hj).2 fun e=>h.not_map hm (e ▸ hj)⟩⟩
theorem NmS.new (w:World):NmS (w.alloc (.map #[] 0)) w.heap.size []:=⟨#[],0,by rw [heap_al,if_pos rfl],rfl⟩
theorem loops_any (p:Pg) (cb B:Nat) (name:Bs) (vf:Value) (w:World) (hbox:w.cell? ⟨cb,3,none⟩=some vf) (hf:SlG kFu (·<B) w vf p.funcs) (hB:B<=w.heap.size) (hn:p.funcs.length<=32) (hcode:∀ f ∈ p.funcs,f.code.length<=1024) (hc:Closed p) (hname:name ∈ namesP p) :
  Calls Tryz.prog 122 #[.pointer (some ⟨cb,0,none⟩),.string ⟨name.toArray⟩] w fun e w'=>e=.returned (.bool (loopB p name))/\Below w.heap.size w w':=by
 obtain ⟨pf,cf,rfl⟩:=hf.slc
 have hmm:=@run_makeMap Tryz.prog
 have hmf:∀ (fn:Fn) (first cap:Array Value) (w:World),(Instr.makeFunc fn first cap).run Tryz.prog w=.ok (.func fn first cap) w:=fun _ _ _ _=>rfl
 have HF:=hid hf;have HB:=hid hB;have HN:=hid hn;have HCO:=hid hcode;have HC:=hid hc;have HNA:=hid hname;have HBX:=hid hbox
 have HLB:=hid (show loopB p name=loopsM p name (2*p.funcs.length+3) [] [name] from rfl)
 clear hf hB hn hcode hc hname hbox
 go_enter Tryz.func122,Tryz.ntmps122
 go_wp2_with fail
 go_loopg [4,6,7,8,10] (2*p.funcs.length+3) (fun kf v4 v6 v7 v8 v10 wr=>∃ (seen todo:List Bs),seen.Nodup/\(∀ s ∈ seen,s ∈ namesP p)/\(∀ s ∈ todo,s ∈ namesP p)/\2*(p.funcs.length - seen.length)+todo.length+1<=kf/\kf<=2*p.funcs.length+3/\loopB p name=loopsM p name kf seen todo /\
   NmS wr w.heap.size seen/\GA kStr w.heap.size 9 wr v6 todo/\Below w.heap.size w wr)
 case atStart =>
  refine ⟨[],[name],List.nodup_nil,by simp,by simpa using HNA.out,?_,Nat.le_refl _,HLB.out,?_,?_,?_⟩
  ·simp
  ·have h1:=NmS.new w
   exact h1.keep (by rw [heap_al,if_neg];rw [sA];omega)
  ·have h1:=GA.lit1 (K:=kStr) (B:=w.heap.size) (cs:=[.string ⟨name.toArray⟩]) (x:=name) (w.alloc (.map #[] 0)) 9 rfl (by rw [sA];omega)
   rw [sA] at h1;exact h1
  ·exact (bA).alloc (by rw [sA];omega) _
 case round =>
  obtain ⟨wr0,rfl⟩:∃ W:World,W=wr:=⟨_,rfl⟩
  obtain ⟨seen,todo,i1,i2,i3,i4,i5,i6,hms,hga,hbr⟩:=hrel
  by_cases h0:todo=[]
  ·subst h0
   obtain ⟨pt,ct,rfl⟩:=hga.slc
   have HM:=hid (show loopB p name=false from by
    rw [i6]
    cases gk with
    | zero=>rfl
    | succ k=>unfold loopsM;rw [if_pos rfl])
   have HBR:=hid hbr
   clear i1 i2 i3 i4 i5 i6 hms hga hbr
   go_wp2_with fail
   go_ret
   exact ⟨by rw [HM.out];rfl,HBR.out⟩
  obtain ⟨k,rfl⟩:∃ k,gk=k+1:=⟨gk - 1,by omega⟩
  obtain ⟨td,f,rfl⟩:∃ td f,todo=td++[f]:=⟨todo.dropLast,todo.getLast h0,(List.dropLast_concat_getLast h0).symm⟩
  clear h0
  have hfn:f ∈ namesP p:=i3 f (by simp)
  obtain ⟨n,hn⟩:∃ n,td.length=n:=⟨_,rfl⟩
  obtain ⟨N,hN⟩:∃ N,(td++[f]).length=N:=⟨_,rfl⟩
  have hNn:N=n+1:=by rw [<- hN,List.length_append,hn];rfl
  have hn100:n<=100:=by have:=HN.out;rw [hN] at i4;omega
  obtain ⟨pt,ct,rfl,hNc,hcm⟩:=hga.slcN hN
  have hga':=hga.pop hn
  obtain ⟨b,off,hpt,hRb,hcells⟩:=str_at (hga.sl (by rw [hN];omega)) (by rw [hN];omega)
  subst hpt
  have hcell:=hcells n (by rw [hN];omega)
  rw [List.getElem_append_right (by omega)] at hcell
  simp only [hn,Nat.sub_self,List.getElem_cons_zero] at hcell
  have HM:=hid (show loopB p name=(let r:=pushM name (callsM (codeOf p f)) seen td;if r.1 then true else loopsM p name k r.2.1 r.2.2) from by
   rw [i6]
   show (if td++[f]=[] then false else _)=_
   rw [if_neg (by simp)]
   simp)
  obtain ⟨ix,hix,hidx,hfind⟩:=idx_find f p.funcs 0 hfn
  rw [Nat.zero_add] at hidx
  have HCD:=hid (show codeOf p f=p.funcs[ix].code from by unfold codeOf;rw [hfind];rfl)
  have HIDX:=hid (show idxM p.funcs f=(ix:Int) from hidx)
  obtain ⟨bf,of,hpf,hRf,hfcells⟩:=fu_at HF.out (by omega:0<p.funcs.length)
  subst hpf
  obtain ⟨pp,cp,pc,cc,hsp,hsc,e0,e1,e2,e3,e4⟩:=hfcells ix hix
  have hcl:=HCO.out _ (List.getElem_mem hix)
  generalize p.funcs[ix].code=code at *
  have HE2:=hid e2
  have HSC:=hid hsc
  have HGA:=hid hga';have HMS:=hid hms;have HBR:=hid hbr;have HI4:=hid i4;have HI5:=hid i5;have HI1:=hid i1;have HI2:=hid i2
  have HTD:=hid (fun s hs=>i3 s (List.mem_append_left [f] hs))
  have HNN:=hid hn;have HN1:=hid hNn;have HNTD:=hid hN
  have HCL:=hid hcl
  have HRF:=hid hRf;have HIX:=hid hix
  have d3:wr0.cell? ⟨cb,3,none⟩=some (.slice (some ⟨bf,of,none⟩) p.funcs.length cf):=(hbr.cell (p:=⟨cb,3,none⟩) (cell_size HBX.out)).trans HBX.out
  clear i1 i2 i3 i4 i5 i6 hms hga hga' hbr hcells hfind hidx hfcells hsp hsc e0 e1 e2 e3 e4 hfn hcl hRf hix
  have q1:wrap64 ((N:Int) - 1)=(n:Int):=by unfold wrap64;omega
  have q2:(0:Int)<(N:Int):=by omega
  have q3:(n:Int)<(N:Int):=by omega
  have q4:(n:Int)<=(ct:Int):=by omega
  have q5:¬ ct=0:=by omega
  have q6:n<N:=by omega
  clear hNn hN hn
  go_upto_region 5 with fail
  obtain ⟨wa,hwa⟩:∃ W,wr0.alloc (.cells #[.string ⟨f.toArray⟩] 9)=W:=⟨_,rfl⟩
  have hba:Below wr0.heap.size wr0 wa:=by rw [<- hwa];exact bA
  have hbx:wa.cell? ⟨wr0.heap.size,0,none⟩=some (.string ⟨f.toArray⟩):=by rw [<- hwa,cell_al];simp
  rw [hwa]
  have d3a:wa.cell? ⟨cb,3,none⟩=some (.slice (some ⟨bf,of,none⟩) p.funcs.length cf):=(hba.cell (p:=⟨cb,3,none⟩) (cell_size d3)).trans d3
  have HBA:=hid (HBR.trans (hba.mono HBR.size))
  have HAR:=hid hba
  have HIA:=hid (idx_any p.funcs f (.slice (some ⟨bf,of,none⟩) p.funcs.length cf) wr0.heap.size wa (HF.keep fun i hi=>⟨Nat.lt_of_lt_of_le (Nat.lt_of_lt_of_le hi HB.out) HBA.size,HBA.block i (Nat.lt_of_lt_of_le hi HB.out)⟩) hbx)
  clear hwa hba hbx d3 q1 q2 q3 q4 q5 q6 hcell hRb
  have hixN:ix<p.funcs.length:=HIX.out
  have hix2:(ix:Int)<(p.funcs.length:Int):=by omega
  have hlen32:p.funcs.length<=32:=HN.out
  go_wp2_with (first
   | (go_at_call 157;with_reducible refine HIA.out.mono ?_;rw [HIDX.out];rintro e wi ⟨rfl,hbi⟩;have d3i:wi.cell? ⟨cb,3,none⟩=some (.slice (some ⟨bf,of,none⟩) p.funcs.length cf):=(hbi.cell (p:=⟨cb,3,none⟩) (cell_size d3a)).trans d3a;have HBI:=hid (HBA.out.trans (hbi.mono HBA.out.size));have HIR:=hid (HAR.out.trans (hbi.mono HAR.out.size));have HE3:=hid ((HBI.out.cell (p:=⟨bf,of+ix*5+2,none⟩) (Nat.lt_of_lt_of_le HRF.out HB.out)).trans HE2.out);have e2i:=HE3.out;have HCA:=hid (calls_any code (.slice pc code.length cc) wi (HSC.out.keep fun i hi=>⟨Nat.lt_of_lt_of_le (Nat.lt_of_lt_of_le hi HB.out) HBI.out.size,HBI.out.block i (Nat.lt_of_lt_of_le hi HB.out)⟩) (by have:=HCL.out;omega));clear hbi d3a)
   | (go_at_call 159;with_reducible refine HCA.out.mono ?_;rintro e wk ⟨vk,rfl,hgk,hbk⟩;obtain ⟨pk,ck,rfl⟩:=hgk.slc;have HBK:=hid (HBI.out.trans (hbk.mono HBI.out.size));have HKR:=hid (HIR.out.trans (hbk.mono HIR.out.size));have HGK:=hid hgk;clear hgk hbk d3i e2i))
  obtain ⟨gs,hgs⟩:∃ gs,callsM code=gs:=⟨_,rfl⟩
  have HGS:=hid (show callsM (codeOf p f)=gs from by rw [HCD.out];exact hgs)
  have hglen:gs.length<=1024:=by have h1:=calls_len code;rw [hgs] at h1;have:=HCL.out;omega
  rw [hgs] at HGK ⊢
  clear hgs
  have HSG:=hid (HGK.slStr (by omega))
  have HGL:=hid hglen
  have hbn:b<=b:=Nat.le_refl _
  have HBW:=hid (show b<wr0.heap.size from (HGA.lt b rfl).2)
  have hwi:wr0.heap.size<=wi.heap.size:=HIR.size
  have HMK:=hid (HMS.keep (HKR.block _ HMS.lt))
  have HGAK:=hid (HGA.keep HKR.out)
  have HWI:=hid hwi
  have HMW:=hid HMS.lt
  clear hglen hbn hwi hix2 hlen32 hixN
  go_loopw [4,6,10,46] (fun v4 v6 v10 iv wx=>∃ (j:Nat) (sn tq:List Bs),j<=gs.length/\iv=.int .i64 (j:Int)/\pushM name (gs.drop j) sn tq=pushM name gs seen td/\tq.length<=n+j/\NmS wx w.heap.size sn/\GA kStr w.heap.size 9 wx v6 tq/\Below w.heap.size w wx /\
   wk.heap.size<=wx.heap.size/\(∀ q,(wi.heap.size<=q/\q<wk.heap.size)->v6.ownBlock ≠ some q/\wx.heap[q]?=wk.heap[q]?)) (fun _ _ _ iv _=>gs.length - (intOf iv).toNat)
  case atStart =>
   refine ⟨0,seen,td,Nat.zero_le _,rfl,rfl,by have:=HNN.out;omega,HMK.out,HGAK.out,HBK.out,Nat.le_refl _,fun q hq=>⟨fun e=>?_,rfl⟩⟩
   have e:b=q:=by injection e
   have:=HBW.out;have:=HWI.out;omega
  case round =>
   obtain ⟨j,sn,tq,hj,rfl,hpm,htl,hms,hga,hbx,hsx,hq⟩:=hrel
   obtain ⟨pq,cq,rfl⟩:=hga.slc
   have HPM:=hid hpm;have HMX:=hid hms;have HGX:=hid hga;have HBX2:=hid hbx;have HSX:=hid hsx;have HQ:=hid hq;have HTL:=hid htl
   clear hpm hms hga hbx hsx hq htl
   by_cases hlt:j<gs.length
   ·have hsl:=HSG.keep (R':=fun q=>wi.heap.size<=q/\q<wk.heap.size) (w':=wr) fun q hq=>⟨hq,(HQ.out q hq).2⟩
    obtain ⟨b8,o8,rfl,hR8,hc8⟩:=str_at hsl (by omega)
    have hcell:=hc8 j hlt
    have HP:=hid (show pushM name (gs[j] :: gs.drop (j+1)) sn tq=pushM name gs seen td from by rw [<- HPM.out,List.drop_eq_getElem_cons hlt])
    have HLT:=hid hlt
    have hjl:(j:Int)<(gs.length:Int):=by omega
    clear hsl hR8 hc8
    generalize gs[j]=g at *
    clear hlt
    by_cases hgn:g=name
    ·subst hgn
     have t1:(g == g)=true:=beq_self_eq_true g
     have HR:=hid (show loopB p g=true from by
      rw [HM.out,HGS.out,<- HP.out]
      simp [pushM])
     go_wp2_with fail
     go_ret
     exact ⟨by rw [HR.out];rfl,HBX2.out⟩
    ·have t1:(g == name)=false:=beq_eq_false_iff_ne.2 hgn
     have hpu:pushM name (g :: gs.drop (j+1)) sn tq=if sn.contains g then pushM name (gs.drop (j+1)) sn tq else pushM name (gs.drop (j+1)) (sn++[g]) (tq++[g]):=by
      show (if g=name then _ else _)=_
      rw [if_neg hgn]
     rw [hpu] at HP
     clear hpu hgn
     cases hcs:sn.contains g with
     | true =>
      rw [hcs,if_pos rfl] at HP
      have HCS:=hid hcs
      clear hcs
      go_wp2_with (first
       | (at_lookup;refine wpList_lookS rfl _ _ 119 rfl 9 4 Tryz.underlying119 Tryz.underlying9 (.bool false) (fun W=>by kernel_rfl) w.heap.size (nmE sn) g rfl HMX.out rfl ?_;rw [nmE_get,HCS.out]))
      go_roundw
      case rel=>exact ⟨j+1,sn,tq,HLT.out,by rw [wrap_next HLT.out (by have:=HGL.out;omega)],HP.out,by have:=HTL.out;omega,HMX.out,HGX.out,HBX2.out,HSX.out,HQ.out⟩
      case measure=>exact meas_next HLT.out (by have:=HGL.out;omega)
     | false =>
      rw [hcs,if_neg (by decide)] at HP
      have HCS:=hid hcs
      clear hcs
      have HND:=hid HNN.out
      go_wp2_with (first
       | (at_lookup;refine wpList_lookS rfl _ _ 119 rfl 9 4 Tryz.underlying119 Tryz.underlying9 (.bool false) (fun W=>by kernel_rfl) w.heap.size (nmE sn) g rfl HMX.out rfl ?_;rw [nmE_get,HCS.out])
       | (at_mapUpdate;go_loud (refine wpList_putS rfl _ _ _ 119 rfl 9 4 Tryz.underlying119 Tryz.underlying9 w.heap.size (nmE sn) g (.bool true) rfl HMX.out rfl rfl ?_;intro w5 hm5 hg5;rw [nmE_put] at hm5;have HM5:=hid hm5;have HG5:=hid hg5;have HGA5:=hid (GA.keepBut HGX.out hg5.size (fun q hq hne=>hg5.block q hq (fun e=>hne (by first | exact Option.some.inj e | exact (Option.some.inj e).symm))) HMX.out);clear hm5 hg5))
       | (at_builtin;refine wpList_push (K:=kStr) (x:=g) (cs:=[.string ⟨g.toArray⟩]) (te:=9) rfl _ _ 22 rfl Tryz.underlying22 _ 16 info_strG rfl HGA5.out rfl rfl rfl (by have h1:=HTL.out;have h2:=HND.out;have h3:=HGL.out;have h4:=HLT.out;omega) (by have h1:=HTL.out;have h3:=HGL.out;have h4:=HLT.out;unfold maxLen;omega) (by have h1:=HBX2.out.size;have h2:=HG5.out.size;omega) ?_;intro v6 w6 hg6 hgr6 hmv6;have HG6:=hid hg6;have HR6:=hid hgr6;have HV6:=hid hmv6;clear hg6 hgr6 hmv6))
      go_roundw
      case rel =>
       have hadd:addN sn g=sn++[g]:=by unfold addN;rw [HCS.out];rfl
       have hs5:=HG5.size
       have hs6:=HR6.size
       rw [sA] at hs6
       have hbw:=HBX2.size
       have hmw:w.heap.size<wr.heap.size:=HMX.lt
       refine ⟨j+1,sn++[g],tq++[g],HLT.out,by rw [wrap_next HLT.out (by have:=HGL.out;omega)],HP.out,by have:=HTL.out;simp;omega,?_,HG6.out,?_,by have:=HSX.out;omega,fun q hq=>?_⟩
       ·rw [<- hadd]
        refine HM5.keep ?_
        have hne:some w.heap.size ≠ (Value.slice pq tq.length cq).ownBlock:=fun e=>HGA5.not_map HM5.out e.symm
        rw [HR6.block w.heap.size (by rw [sA];omega) hne,heap_al,if_neg (by omega)]
       ·refine below_push HGA5.out (HBX2.grown HG5.out hbw fun k hk=>by injection hk with hk;omega) HR6.out (by omega)
       ·have hq2:=HQ.out q hq
        have hsx:=HSX.out
        have hwi:=HWI.out
        have hmwi:=HMW.out
        refine ⟨fun e=>?_,?_⟩
        ·rcases HV6.out with h | ⟨k,h,hk⟩
         ·rw [h] at e;exact hq2.1 e
         ·rw [h] at e;injection e with e;omega
        ·rw [HR6.block q (by rw [sA];omega) (fun e=>hq2.1 e.symm),heap_al,if_neg (by omega),HG5.block q (by omega) (fun e=>by injection e with e;omega)]
         exact hq2.2
      case measure=>exact meas_next HLT.out (by have:=HGL.out;omega)
   ·obtain rfl:j=gs.length:=by omega
    have hP:pushM name gs seen td=(false,sn,tq):=by rw [<- HPM.out,List.drop_length];rfl
    have HP:=hid hP
    clear hlt hP hj
    go_wp2_with fail
    have hi1:=HI1.out
    rcases push_spec name gs seen td hi1 with ⟨h1,h2⟩ | ⟨h1,h2,new,h3,h4,h5,h6,h7⟩
    ·rw [HP.out] at h1;cases h1
    ·rw [HP.out] at h3 h4
     simp only at h3 h4
     have hsn:∀ s ∈ seen++new,s ∈ namesP p:=fun s h=>by
      rcases List.mem_append.1 h with h | h
      ·exact HI2.out s h
      ·exact HC.out f s (by rw [HGS.out];exact h6 s h)
     have hle:=nodup_le (seen++new) (namesP p) h5 hsn
     rw [List.length_append,show (namesP p).length=p.funcs.length by simp [namesP]] at hle
     have hi4:=HI4.out
     have hi5:=HI5.out
     have hnn:=HNN.out
     rw [List.length_append] at hi4
     simp only [List.length_cons,List.length_nil] at hi4
     go_roundg k
     case measure=>omega
     case rel =>
      refine ⟨sn,tq,by rw [h3];exact h5,by rw [h3];exact hsn,fun s hs=>?_,?_,by omega,?_,HMX.out,HGX.out,HBX2.out⟩
      ·rw [h4] at hs
       rcases List.mem_append.1 hs with h | h
       ·exact HTD.out s h
       ·exact hsn s (List.mem_append_right _ h)
      ·rw [h3,h4,List.length_append,List.length_append];omega
      ·rw [HM.out,HGS.out,HP.out];rfl
end Go.Proofs.YtoofbgoeipijcaaGreatDoor
