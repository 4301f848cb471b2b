/-
 A part.
-/
import Derived.Test.YtoofbgoeipijcaaGreatDoorVB12
import Derived.Deep.DeepCutAuto
namespace Go.Proofs.YtoofbgoeipijcaaGreatDoor
set_option maxRecDepth 100000
set_option maxHeartbeats 2000000
set_option linter.all false
open Go.RowKit Go.Shelf
attribute [local go_sem] Oper.semAt_some
theorem info_strG:(Tryz.prog.info? 9).map (fun i=>(i.zero,i.size,i.bytes))=some (some (.string ⟨#[]⟩),kStr.n,16):=by kernel_rfl
theorem calls_snoc (l:List In) (k:Nat) (hk:k<l.length):callsM (l.take (k+1))=callsM (l.take k)++if l[k].kind=4 then [l[k].nm] else []:=by
 unfold callsM
 rw [List.take_succ_eq_append_getElem hk,List.filter_append,List.map_append]
 congr 1
 by_cases h:l[k].kind=4
 ·simp [h]
 ·simp [h]
theorem calls_len (l:List In):(callsM l).length<=l.length:=by
 unfold callsM;rw [List.length_map];exact List.length_filter_le _ _
theorem calls_any (l:List In) (v:Value) (w:World) (h:SlG kIn (·<w.heap.size) w v l) (hl:l.length<=100000) :
  Calls Tryz.prog 159 #[v] w fun e w'=>∃ v',e=.returned v'/\GA kStr w.heap.size 9 w' v' (callsM l)/\Below w.heap.size w w':=by
 obtain ⟨p,c,rfl⟩:=h.slc
 have HS:=hid h;have HL:=hid hl
 clear h hl
 go_enter Tryz.func159,Tryz.ntmps159
 go_wp2
 go_loopw [3,8] (fun ov iv wr=>∃ k:Nat,k<=l.length/\iv=.int .i64 (k:Int)/\GA kStr w.heap.size 9 wr ov (callsM (l.take k))/\Below w.heap.size w wr) (fun _ iv _=>l.length - (intOf iv).toNat)
 case atStart=>exact ⟨0,Nat.zero_le _,rfl,GA.nil _ _ _ _,Below.refl _ _⟩
 case round =>
  obtain ⟨k,hk,rfl,hga,hbr⟩:=hrel
  obtain ⟨po,co,rfl⟩:=hga.slc
  by_cases hlt:k<l.length
  ·obtain ⟨b,off,rfl,hR,hcells⟩:=in_at HS.out (by omega:0<l.length)
   obtain ⟨pa,ca,hsa,c0,c1,c2,c3,c4,c5,c6⟩:=hcells k hlt
   have d0:=(hbr.cell (p:=⟨b,off+k*7,none⟩) hR).trans c0
   have d1:=(hbr.cell (p:=⟨b,off+k*7+1,none⟩) hR).trans c1
   have d2:=(hbr.cell (p:=⟨b,off+k*7+2,none⟩) hR).trans c2
   have d3:=(hbr.cell (p:=⟨b,off+k*7+3,none⟩) hR).trans c3
   have d4:=(hbr.cell (p:=⟨b,off+k*7+4,none⟩) hR).trans c4
   have d5:=(hbr.cell (p:=⟨b,off+k*7+5,none⟩) hR).trans c5
   have d6:=(hbr.cell (p:=⟨b,off+k*7+6,none⟩) hR).trans c6
   have HSN:=hid (calls_snoc l k hlt)
   have HCL:=hid (show (callsM (l.take k)).length<=100000 from by have h1:=calls_len (l.take k);have h2:=HL.out;rw [List.length_take] at h1;omega)
   have HLT:=hid hlt;have HBR:=hid hbr;have HGA:=hid hga
   clear hcells hsa c0 c1 c2 c3 c4 c5 c6 hR hbr hga
   generalize l[k]=x at *
   go_upto_if 14 with fail
   obtain ⟨wo,hwo⟩:∃ W,wr.alloc (.cells #[.int .u8 (x.kind:Int),.int .u8 (x.op:Int),.string ⟨x.dst.toArray⟩,.string ⟨x.nm.toArray⟩,.slice pa x.args.length ca,.int .i64 x.pos.1,.int .i64 x.pos.2] 41)=W:=⟨_,rfl⟩
   have hbo:Below wr.heap.size wr wo:=by rw [<- hwo];exact bA
   have hbx:BxL 41 wr.heap.size (inL x (.slice pa x.args.length ca)) wo:=by rw [<- hwo];exact BxL.new _ _ _
   rw [hwo]
   have n3:wo.cell? ⟨wr.heap.size,3,none⟩=some (.string ⟨x.nm.toArray⟩):=hbx.at 3 rfl
   have HBO:=hid (HBR.trans (hbo.mono HBR.size))
   have HGO:=hid (HGA.keep hbo)
   clear hwo hbo hbx d0 d1 d2 d3 d4 d5 d6 hlt
   by_cases h4:x.kind=4
   ·have t4:((x.kind:Int) == 4)=true:=by rw [h4];rfl
    have HSN4:=hid (HSN.trans (by rw [if_pos h4]))
    clear h4
    go_wp2_with (at_builtin;refine wpList_push (K:=kStr) (x:=x.nm) (cs:=[.string ⟨x.nm.toArray⟩]) (te:=9) rfl _ _ 22 rfl Tryz.underlying22 _ 16 info_strG rfl HGO.out rfl rfl rfl (by have:=HCL.out;omega) (by have:=HCL.out;unfold maxLen;omega) HBO.out.size ?_;intro v5 w5 hg5 hgr5 hm5;have HG5:=hid hg5;have HB5:=hid (below_push HGO.out HBO.out hgr5 HBO.out.size);clear hg5 hgr5 hm5)
    go_roundw
    case rel=>exact ⟨k+1,HLT.out,by rw [wrap_next HLT.out HS.len],by rw [HSN4.out];exact HG5.out,HB5.out⟩
    case measure=>exact meas_next HLT.out HS.len
   ·have t4:((x.kind:Int) == 4)=false:=by simp;omega
    have HSN4:=hid (HSN.trans (by rw [if_neg h4,List.append_nil]))
    clear h4
    go_wp2_with fail
    go_roundw
    case rel=>exact ⟨k+1,HLT.out,by rw [wrap_next HLT.out HS.len],by rw [HSN4.out];exact HGO.out,HBO.out⟩
    case measure=>exact meas_next HLT.out HS.len
  ·obtain rfl:k=l.length:=by omega
   have HBR:=hid hbr;have HGA:=hid hga
   clear hlt hbr hga
   go_wp2_with fail
   go_ret
   have hga:=HGA.out
   rw [List.take_length] at hga
   refine ⟨_,rfl,?_,HBR.out⟩
   simpa using hga
theorem nodup_le {α:Type} [DecidableEq α]:∀ (l m:List α),l.Nodup->(∀ x ∈ l,x ∈ m)->l.length<=m.length
 | [],m,_,_=>Nat.zero_le _
 | x :: r,m,hn,hs=>by
  have hx:=hs x (List.mem_cons_self ..)
  have hn':=List.nodup_cons.1 hn
  have h:=nodup_le r (m.erase x) hn'.2 fun y hy=>by
   have hne:y ≠ x:=fun e=>hn'.1 (e ▸ hy)
   exact (List.mem_erase_of_ne hne).2 (hs y (List.mem_cons_of_mem _ hy))
  rw [List.length_erase_of_mem hx] at h
  have:0<m.length:=List.length_pos_of_mem hx
  simp only [List.length_cons]
  omega
def namesP (p:Pg):List Bs:=p.funcs.map Fu.nm
def Closed (p:Pg):Prop:=∀ a,∀ b ∈ callsM (codeOf p a),b ∈ namesP p
theorem push_spec (name:Bs):∀ (gs seen todo:List Bs),seen.Nodup ->
  (pushM name gs seen todo).1=true/\name ∈ gs \/
  (pushM name gs seen todo).1=false/\name ∉ gs/\∃ new:List Bs,(pushM name gs seen todo).2.1=seen++new/\(pushM name gs seen todo).2.2=todo++new/\(seen++new).Nodup/\(∀ x ∈ new,x ∈ gs)/\∀ x ∈ gs,x ∈ seen++new
 | [],seen,todo,hn => .inr ⟨rfl,by simp,[],by simp [pushM],by simp [pushM],by simpa using hn,by simp,by simp⟩
 | g :: r,seen,todo,hn=>by
  unfold pushM
  by_cases c1:g=name
  ·left;rw [if_pos c1];exact ⟨rfl,by rw [c1];exact List.mem_cons_self ..⟩
  rw [if_neg c1]
  by_cases c2:seen.contains g=true
  ·rw [if_pos c2]
   rcases push_spec name r seen todo hn with ⟨h1,h2⟩ | ⟨h1,h2,new,h3,h4,h5,h6,h7⟩
   ·exact .inl ⟨h1,List.mem_cons_of_mem _ h2⟩
   ·refine .inr ⟨h1,fun h=>?_,new,h3,h4,h5,fun x hx=>List.mem_cons_of_mem _ (h6 x hx),fun x hx=>?_⟩
    ·rcases List.mem_cons.1 h with h | h
     ·exact c1 h.symm
     ·exact h2 h
    ·rcases List.mem_cons.1 hx with h | h
     ·rw [h];exact List.mem_append_left _ (List.contains_iff_mem.1 c2)
     ·exact h7 x h
  ·rw [if_neg c2]
   have hnm:g ∉ seen:=fun h=>c2 (List.contains_iff_mem.2 h)
   have hn2:(seen++[g]).Nodup:=by
    rw [List.nodup_append]
    exact ⟨hn,by simp,fun a ha b hb e=>by rw [List.mem_singleton] at hb;rw [e,hb] at ha;exact hnm ha⟩
   rcases push_spec name r (seen++[g]) (todo++[g]) hn2 with ⟨h1,h2⟩ | ⟨h1,h2,new,h3,h4,h5,h6,h7⟩
   ·exact .inl ⟨h1,List.mem_cons_of_mem _ h2⟩
   ·refine .inr ⟨h1,fun h=>?_,g :: new,by rw [h3];simp,by rw [h4];simp,by simpa using h5,fun x hx=>?_,fun x hx=>?_⟩
    ·rcases List.mem_cons.1 h with h | h
     ·exact c1 h.symm
     ·exact h2 h
    ·rcases List.mem_cons.1 hx with h | h
     ·rw [h];exact List.mem_cons_self ..
     ·exact List.mem_cons_of_mem _ (h6 x h)
    ·rcases List.mem_cons.1 hx with h | h
     ·rw [h];simp
     ·have:=h7 x h;simpa using this
def codeAt (p:Pg) (i:Nat):List In:=((p.funcs[i]?).map Fu.code).getD []
theorem clos_any (f:Fu) (s:Bs) (pp pc:Option Addr) (cp cc b:Nat) (w:World) (hb:w.cell? ⟨b,0,none⟩=some (.string ⟨s.toArray⟩)) :
  Calls Tryz.prog 158 #[.agg #[.string ⟨f.nm.toArray⟩,.slice pp f.params.length cp,.slice pc f.code.length cc,.int .i64 f.pos.1,.int .i64 f.pos.2],.pointer (some ⟨b,0,none⟩)] w fun e w'=>e=.returned (.bool (decide (f.nm=s)))/\Below w.heap.size w w':=by
 have hbo:∀ o,(w.alloc o).cell? ⟨b,0,none⟩=some (.string ⟨s.toArray⟩):=fun o=>(((Below.refl w.heap.size w).alloc lrf o).cell (p:=⟨b,0,none⟩) (cell_size hb)).trans hb
 clear hb
 obtain ⟨n,hn⟩:∃ n,f.nm=n:=⟨_,rfl⟩
 rw [hn]
 by_cases h:n=s
 ·subst h
  have t1:(n == n)=true:=beq_self_eq_true n
  have HD:=hid (decide_eq_true (rfl:n=n))
  clear hn
  go_enter Tryz.func158,Tryz.ntmps158
  go_wp2
  go_ret
  exact ⟨by first | rfl | (rw [HD.out];rfl),bA⟩
 ·have t1:(n == s)=false:=beq_eq_false_iff_ne.2 h
  have HD:=hid (decide_eq_false h)
  clear h hn
  go_enter Tryz.func158,Tryz.ntmps158
  go_wp2
  go_ret
  exact ⟨by first | rfl | (rw [HD.out];rfl),bA⟩
def idxGo (s:Bs):List Fu->Nat->Int
 | [],_ => -1
 | f :: r,k=>if f.nm=s then (k:Int) else idxGo s r (k+1)
def idxM (p:List Fu) (s:Bs):Int:=idxGo s p 0
theorem idx_find (s:Bs):∀ (l:List Fu) (k:Nat),s ∈ l.map Fu.nm->∃ i,∃ h:i<l.length,idxGo s l k=((k+i:Nat):Int)/\l.find? (fun f=>decide (f.nm=s))=some l[i]
 | [],_,h=>by simp at h
 | f :: r,k,h=>by
  unfold idxGo
  by_cases e:f.nm=s
  ·exact ⟨0,by simp,by rw [if_pos e];rfl,by simp [e]⟩
  ·rw [if_neg e]
   have h':s ∈ r.map Fu.nm:=by
    rw [List.map_cons,List.mem_cons] at h
    exact h.resolve_left fun h=>e h.symm
   obtain ⟨i,hi,h1,h2⟩:=idx_find s r (k+1) h'
   exact ⟨i+1,by simp;omega,by rw [h1];congr 1;omega,by simp [e,h2]⟩
theorem idx_any (l:List Fu) (s:Bs) (v:Value) (b:Nat) (w:World) (h:SlG kFu (·<w.heap.size) w v l) (hb:w.cell? ⟨b,0,none⟩=some (.string ⟨s.toArray⟩)) :
  Calls Tryz.prog 157 #[v,.func (.func 158) #[] #[.pointer (some ⟨b,0,none⟩)]] w fun e w'=>e=.returned (.int .i64 (idxM l s))/\Below w.heap.size w w':=by
 obtain ⟨p,c,rfl⟩:=h.slc
 have HS:=hid h;have HL:=hid h.len;have HB:=hid hb
 have HM:=hid (show idxM l s=idxGo s (l.drop 0) 0 from rfl)
 clear h hb
 go_enter Tryz.func157,Tryz.ntmps157
 go_wp2
 go_loopw [4,5,8] (fun v4 v5 iv wr=>∃ k:Nat,k<=l.length/\iv=.int .i64 (k:Int)/\idxM l s=idxGo s (l.drop k) k/\Below w.heap.size w wr) (fun _ _ iv _=>l.length - (intOf iv).toNat)
 case atStart=>exact ⟨0,Nat.zero_le _,rfl,HM.out,Below.refl _ _⟩
 case round =>
  obtain ⟨k,hk,rfl,hm,hbr⟩:=hrel
  by_cases hlt:k<l.length
  ·obtain ⟨b0,off,rfl,hR,hcells⟩:=fu_at HS.out (by omega:0<l.length)
   obtain ⟨pp,cp,pc,cc,hsp,hsc,c0,c1,c2,c3,c4⟩:=hcells k hlt
   have d0:=(hbr.cell (p:=⟨b0,off+k*5,none⟩) hR).trans c0
   have d1:=(hbr.cell (p:=⟨b0,off+k*5+1,none⟩) hR).trans c1
   have d2:=(hbr.cell (p:=⟨b0,off+k*5+2,none⟩) hR).trans c2
   have d3:=(hbr.cell (p:=⟨b0,off+k*5+3,none⟩) hR).trans c3
   have d4:=(hbr.cell (p:=⟨b0,off+k*5+4,none⟩) hR).trans c4
   have HBC:=hid ((hbr.cell (p:=⟨b,0,none⟩) (cell_size HB.out)).trans HB.out)
   have HM2:=hid (hm.trans (by rw [List.drop_eq_getElem_cons hlt,idxGo]))
   have HLT:=hid hlt;have HBR:=hid hbr
   clear hcells hsp hsc c0 c1 c2 c3 c4 hR hbr hm
   generalize l[k]=f at *
   have HCL:=hid (clos_any f s pp pc cp cc b wr HBC.out)
   by_cases hf:f.nm=s
   ·have HR:=hid (HM2.trans (if_pos hf))
    rw [decide_eq_true hf] at HCL
    clear hf hlt
    go_wp2_with (go_at_call 158;with_reducible refine HCL.out.mono ?_;rintro e w2 ⟨rfl,hb2⟩;have HB2:=hid (HBR.out.trans (hb2.mono HBR.out.size));clear hb2)
    go_ret
    exact ⟨by rw [HR.out];rfl,HB2.out⟩
   ·have HR:=hid (HM2.trans (if_neg hf))
    rw [decide_eq_false hf] at HCL
    clear hf hlt
    go_wp2_with (go_at_call 158;with_reducible refine HCL.out.mono ?_;rintro e w2 ⟨rfl,hb2⟩;have HB2:=hid (HBR.out.trans (hb2.mono HBR.out.size));clear hb2)
    go_roundw
    case rel=>exact ⟨k+1,HLT.out,by rw [wrap_next HLT.out HL.out],HR.out,HB2.out⟩
    case measure=>exact meas_next HLT.out HL.out
  ·obtain rfl:k=l.length:=by omega
   have HR:=hid (show idxM l s = -1 from by rw [hm,List.drop_length];rfl)
   have HBR:=hid hbr
   clear hlt hbr hm
   go_wp2_with fail
   go_ret
   exact ⟨by rw [HR.out];rfl,HBR.out⟩
end Go.Proofs.YtoofbgoeipijcaaGreatDoor
