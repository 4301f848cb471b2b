/-
 A part.
-/
import Derived.Test.YtoofbgoeipijcaaGreatDoorVSPrZ2
import Derived.Test.YtoofbgoeipijcaaGreatDoorVB23
import Derived.Laws.OwnMore
namespace Go.Proofs.YtoofbgoeipijcaaGreatDoor
set_option maxRecDepth 100000
set_option maxHeartbeats 4000000
set_option linter.all false
open Go.RowKit Go.Shelf
attribute [local go_sem] Oper.semAt_some
structure GF {α:Type} (K:EK α) (B e:Nat) (w:World) (v:Value) (l:List α):Prop where
 row:∃ css,Each K (fun k=>B<=k/\k<w.heap.size/\v.ownBlock ≠ some k) w css l/\w.ownsRow B e K.n v l.length css.flatten
section
variable {α:Type} {K:EK α} {B B' e:Nat} {w w':World} {v v':Value} {l:List α}
theorem Each.weaken {R R':Nat->Prop} {css:List (List Value)} (h:Each K R w css l) (hf:∀ k,R k->R' k):Each K R' w css l:=h.keep fun k hk=>⟨hf k hk,rfl⟩
theorem GF.nil (K:EK α) (B e:Nat) (w:World):GF K B e w (.slice none 0 0) []:=⟨⟨[],Each.nil,World.ownsRow_nil _ _ _ _⟩⟩
theorem GF.ga (h:GF K B e w v l):GA K B e w v l:=let ⟨css,h1,h2⟩:=h.row;⟨⟨css,h1.weaken fun k hk=>hk.2,h2⟩⟩
theorem GF.slc (h:GF K B e w v l):∃ p c,v=.slice p l.length c:=h.ga.slc
theorem GF.lt (h:GF K B e w v l):∀ k,v.ownBlock=some k->B<=k/\k<w.heap.size:=h.ga.lt
theorem GF.base (h:GF K B e w v l) (hB:B'<=B):GF K B' e w v l:=by
 obtain ⟨css,h1,h2⟩:=h.row
 refine ⟨⟨css,h1.weaken fun k hk=>⟨Nat.le_trans hB hk.1,hk.2⟩,h2.1,?_⟩⟩
 rcases h2.2 with h | ⟨g,cap,cur,h3,hb,h4⟩
 ·exact .inl h
 ·exact .inr ⟨g,cap,cur,h3,Nat.le_trans hB hb,h4⟩
theorem GF.keepB (h:GF K B e w v l) (hs:w.heap.size<=w'.heap.size) (hf:∀ k,B<=k->k<w.heap.size->w'.heap[k]?=w.heap[k]?):GF K B e w' v l:=by
 obtain ⟨css,h1,h2⟩:=h.row
 exact ⟨⟨css,h1.keep fun k hk=>⟨⟨hk.1,Nat.lt_of_lt_of_le hk.2.1 hs,hk.2.2⟩,hf k hk.1 hk.2.1⟩,owns_keepG h2 fun j hj=>hf j (h2.lt j hj).1 (h2.lt j hj).2⟩⟩
theorem GF.keep (h:GF K B e w v l) (hb:Below w.heap.size w w'):GF K B e w' v l:=h.keepB hb.size fun k _ hk=>hb.block k hk
theorem GF.sl (h:GF K B e w v l) (hl:l.length<=140737488355328):SlG K (fun k=>B<=k/\k<w.heap.size) w v l:=by
 obtain ⟨css,h1,h2⟩:=h.row
 exact SlG.ofOwn (h1.weaken fun k hk=>⟨hk.1,hk.2.1⟩) h2 hl fun k hk=>h2.lt k hk
theorem GF.slw (h:GF K B e w v l) (hl:l.length<=140737488355328):SlG K (·<w.heap.size) w v l:=(h.sl hl).weaken fun k hk=>hk.2
theorem GF.push {x:α} {css:List (List Value)} {cs:List Value} {o:Obj} (h:Each K (fun k=>B<=k/\k<w.heap.size/\v.ownBlock ≠ some k) w css l) (hl:∀ k,v.ownBlock=some k->k<w.heap.size)
  (hx:K.E (fun k=>B<=k/\k<w.heap.size/\v.ownBlock ≠ some k) w cs x) (hg:(w.alloc o).grownBy w' v.ownBlock) (ho:w'.ownsRow B e K.n v' (l.length+1) (css.flatten++cs)) (hv:v'.ownBlock=v.ownBlock\/v'.ownBlock=some (w.alloc o).heap.size):GF K B e w' v' (l++[x]):=by
 have hga:=(World.grownBy_alloc w o v.ownBlock).trans hg
 have hn:∀ k,(B<=k/\k<w.heap.size/\v.ownBlock ≠ some k)->(B<=k/\k<w'.heap.size/\v'.ownBlock ≠ some k)/\w'.heap[k]?=w.heap[k]?:=fun k hk=>by
  refine ⟨⟨hk.1,Nat.lt_of_lt_of_le hk.2.1 hga.size,fun e=>?_⟩,hga.block k hk.2.1 fun e=>hk.2.2 e.symm⟩
  rcases hv with e' | e'
  ·exact hk.2.2 (e'.symm.trans e)
  ·rw [e'] at e;rw [sA] at e;cases e;omega
 refine ⟨⟨css++[cs],(h.keep hn).snoc (K.keep hx hn),?_⟩⟩
 rw [List.length_append,List.flatten_append]
 simpa using ho
end
theorem GA.gfS {B e:Nat} {w:World} {v:Value} {l:List Bs} (h:GA kStr B e w v l):GF kStr B e w v l:=let ⟨css,h1,h2⟩:=h.row;⟨⟨css,⟨h1.1,h1.2⟩,h2⟩⟩
theorem GA.gfA {B e:Nat} {w:World} {v:Value} {l:List Ag} (h:GA kAg B e w v l):GF kAg B e w v l:=let ⟨css,h1,h2⟩:=h.row;⟨⟨css,⟨h1.1,h1.2⟩,h2⟩⟩
theorem GA.gfR {B e:Nat} {w:World} {v:Value} {l:List Ar} (h:GA kAr B e w v l):GF kAr B e w v l:=let ⟨css,h1,h2⟩:=h.row;⟨⟨css,⟨h1.1,h1.2⟩,h2⟩⟩
section
variable {P:Program}
theorem wpList_pushF {α:Type} {K:EK α} {B:Nat} {w:World} {v:Value} {l:List α} {x:α} {cs:List Value} {te:TypeId} {ops:Array Oper} {rest:List Oper} {o:Oper} {a:Act} {Q:Exit->Act->World->Prop}
  (hgd:o.guard=none) (s y:Operand) (t:TypeId) (ho:o.op=.call { callee := .builtin .append,args:=#[s,y],argTypes:=#[t,t] }) (ht:P.underlying t=some (.slice te))
  (z:Value) (bytes:Nat) (hinfo:(P.info? te).map (fun i=>(i.zero,i.size,i.bytes))=some (some z,K.n,bytes)) (hzs:z.cells.size=K.n)
  (h:GF K B te w v l) (hx:K.E (fun k=>B<=k/\k<w.heap.size/\v.ownBlock ≠ some k) w cs x) (hs:a.eval s=v) (hy:a.eval y=.slice (some ⟨w.heap.size,0,none⟩) 1 1)
  (hl:(l.length+1)*bytes<=140737488355328) (h63:l.length+1<=maxLen) (hB:B<=w.heap.size)
  (hK:∀ v' w',GF K B te w' v' (l++[x])->(w.alloc (.cells cs.toArray te)).grownBy w' v.ownBlock->Moved w v v'->wpList P ops Q rest (a.put o.dst v') w') :
  wpList P ops Q (o :: rest) a (w.alloc (.cells cs.toArray te)):=by
 obtain ⟨css,h1,h2⟩:=h.row
 refine wpList_appG (R:=fun _=>True) _ hgd s y t ho B te z K.n bytes ht hinfo hzs K.pos v l.length css.flatten hs (h2.alloc _) ⟨w.heap.size,0,none⟩ 1 1 cs hy (by rw [K.len hx];omega) (RowR.lit w cs te trivial) (K.one hx) hl h63 (by rw [sA];omega) ?_
 intro v' w' ho' hg hv
 refine hK v' w' ?_ hg ?_
 ·exact GF.push h1 (fun k hk=>(h2.lt k hk).2) hx hg ho' hv
 ·rcases hv with e | e
  ·exact .inl e
  ·exact .inr ⟨_,e,by rw [sA];omega⟩
end
theorem info_arG:(Tryz.prog.info? 87).map (fun i=>(i.zero,i.size,i.bytes))=some (some (.agg #[.string ⟨#[]⟩,.int .i64 0]),kAr.n,24):=by kernel_rfl
theorem info_inG:(Tryz.prog.info? 41).map (fun i=>(i.zero,i.size,i.bytes))=some (some (.agg #[.int .u8 0,.int .u8 0,.string ⟨#[]⟩,.string ⟨#[]⟩,.slice none 0 0,.int .i64 0,.int .i64 0]),kIn.n,80):=by kernel_rfl
theorem copystrs_any (l:List Bs) (v:Value) (w:World) (h:SlG kStr (·<w.heap.size) w v l) (hl:l.length<=1000000000000) :
  Calls Tryz.prog 40 #[v] w fun e w'=>∃ v',e=.returned v'/\GF kStr w.heap.size 9 w' v' l/\Below w.heap.size w w':=by
 obtain ⟨p,c,rfl⟩:=h.slc
 have HS:=hid h;have HL:=hid hl
 clear h hl
 go_enter Tryz.func40,Tryz.ntmps40
 go_wp2
 go_loopw [3,4] (fun ov iv wr=>∃ k:Nat,k<=l.length/\iv=.int .i64 (k:Int)/\GA kStr w.heap.size 9 wr ov (l.take k)/\Below w.heap.size w wr) (fun _ iv _=>l.length - (intOf iv).toNat)
 case atStart=>exact ⟨0,Nat.zero_le _,rfl,GA.nil _ _ _ _,Below.refl _ _⟩
 case round =>
  obtain ⟨k,hk,rfl,hga,hbr⟩:=hrel
  obtain ⟨T,hT⟩:∃ T,l.take k=T:=⟨_,rfl⟩
  rw [hT] at hga
  have HTD:=hid hT
  clear hT
  obtain ⟨po,co,rfl⟩:=hga.slc
  by_cases hlt:k<l.length
  ·obtain ⟨b,off,rfl,hR,hcells⟩:=str_at HS.out (by omega:0<l.length)
   have d0:=(hbr.cell (p:=⟨b,off+k,none⟩) hR).trans (hcells k hlt)
   have HSN:=hid (show l.take (k+1)=T++[l[k]] from by rw [List.take_succ_eq_append_getElem hlt,HTD.out])
   have HCL:=hid (show T.length+1<=1000000000000 from by rw [<- HTD.out,List.length_take];have:=HL.out;omega)
   have HLT:=hid hlt;have HBO:=hid hbr;have HGO:=hid hga
   clear hcells hR hbr hga HTD
   generalize l[k]=x at *
   clear hlt
   go_wp2_with (at_builtin;refine wpList_push (K:=kStr) (x:=x) (cs:=[.string ⟨x.toArray⟩]) (te:=9) rfl _ _ 22 rfl Tryz.underlying22 _ 16 info_strG rfl HGO.out rfl rfl rfl (by have:=HCL.out;omega) (by have:=HCL.out;unfold maxLen;omega) HBO.out.size ?_;intro v5 w5 hg5 hgr5 hm5;have HG5:=hid hg5;have HB5:=hid (below_push HGO.out HBO.out hgr5 HBO.out.size);clear hg5 hgr5 hm5)
   go_roundw
   case rel=>exact ⟨k+1,HLT.out,by rw [wrap_next HLT.out HS.len],by rw [HSN.out];exact HG5.out,HB5.out⟩
   case measure=>exact meas_next HLT.out HS.len
  ·obtain rfl:k=l.length:=by omega
   have HBR:=hid hbr;have HGA:=hid hga
   clear hlt hbr hga
   go_wp2_with fail
   go_ret
   have hga:=HGA.out
   have hT:=HTD.out
   rw [List.take_length] at hT
   subst hT
   exact ⟨_,rfl,hga.gfS,HBR.out⟩
theorem copyarrs_any (l:List Ar) (v:Value) (w:World) (h:SlG kAr (·<w.heap.size) w v l) (hl:l.length<=1000000000000) :
  Calls Tryz.prog 41 #[v] w fun e w'=>∃ v',e=.returned v'/\GF kAr w.heap.size 87 w' v' l/\Below w.heap.size w w':=by
 obtain ⟨p,c,rfl⟩:=h.slc
 have HS:=hid h;have HL:=hid hl
 clear h hl
 go_enter Tryz.func41,Tryz.ntmps41
 go_wp2
 go_loopw [3,4] (fun ov iv wr=>∃ k:Nat,k<=l.length/\iv=.int .i64 (k:Int)/\GA kAr w.heap.size 87 wr ov (l.take k)/\Below w.heap.size w wr) (fun _ iv _=>l.length - (intOf iv).toNat)
 case atStart=>exact ⟨0,Nat.zero_le _,rfl,GA.nil _ _ _ _,Below.refl _ _⟩
 case round =>
  obtain ⟨k,hk,rfl,hga,hbr⟩:=hrel
  obtain ⟨T,hT⟩:∃ T,l.take k=T:=⟨_,rfl⟩
  rw [hT] at hga
  have HTD:=hid hT
  clear hT
  obtain ⟨po,co,rfl⟩:=hga.slc
  by_cases hlt:k<l.length
  ·obtain ⟨b,off,rfl,hR,hcells⟩:=ar_at HS.out (by omega:0<l.length)
   obtain ⟨c0,c1⟩:=hcells k hlt
   have d0:=(hbr.cell (p:=⟨b,off+k*2,none⟩) hR).trans c0
   have d1:=(hbr.cell (p:=⟨b,off+k*2+1,none⟩) hR).trans c1
   clear c0 c1
   have HSN:=hid (show l.take (k+1)=T++[l[k]] from by rw [List.take_succ_eq_append_getElem hlt,HTD.out])
   have HCL:=hid (show T.length+1<=1000000000000 from by rw [<- HTD.out,List.length_take];have:=HL.out;omega)
   have HLT:=hid hlt;have HBO:=hid hbr;have HGO:=hid hga
   clear hcells hR hbr hga HTD
   generalize l[k]=x at *
   clear hlt
   go_wp2_with (at_builtin;refine wpList_push (K:=kAr) (x:=x) (cs:=[.string ⟨x.nm.toArray⟩,.int .i64 x.size]) (te:=87) rfl _ _ 23 rfl Tryz.underlying23 _ 24 info_arG rfl HGO.out rfl rfl rfl (by have:=HCL.out;omega) (by have:=HCL.out;unfold maxLen;omega) HBO.out.size ?_;intro v5 w5 hg5 hgr5 hm5;have HG5:=hid hg5;have HB5:=hid (below_push HGO.out HBO.out hgr5 HBO.out.size);clear hg5 hgr5 hm5)
   go_roundw
   case rel=>exact ⟨k+1,HLT.out,by rw [wrap_next HLT.out HS.len],by rw [HSN.out];exact HG5.out,HB5.out⟩
   case measure=>exact meas_next HLT.out HS.len
  ·obtain rfl:k=l.length:=by omega
   have HBR:=hid hbr;have HGA:=hid hga
   clear hlt hbr hga
   go_wp2_with fail
   go_ret
   have hga:=HGA.out
   have hT:=HTD.out
   rw [List.take_length] at hT
   subst hT
   exact ⟨_,rfl,hga.gfR,HBR.out⟩
theorem copyinstrs_any (l:List In) (v:Value) (w:World) (h:SlG kIn (·<w.heap.size) w v l) (hl:l.length<=1000000000000) (ha:∀ x ∈ l,x.args.length<=5864062014805) :
  Calls Tryz.prog 44 #[v] w fun e w'=>∃ v',e=.returned v'/\GF kIn w.heap.size 41 w' v' l/\Below w.heap.size w w':=by
 obtain ⟨p,c,rfl⟩:=h.slc
 have HS:=hid h;have HL:=hid hl;have HA:=hid ha
 clear h hl ha
 go_enter Tryz.func44,Tryz.ntmps44
 go_wp2
 go_loopw [3,4] (fun ov iv wr=>∃ k:Nat,k<=l.length/\iv=.int .i64 (k:Int)/\GF kIn w.heap.size 41 wr ov (l.take k)/\Below w.heap.size w wr) (fun _ iv _=>l.length - (intOf iv).toNat)
 case atStart=>exact ⟨0,Nat.zero_le _,rfl,GF.nil _ _ _ _,Below.refl _ _⟩
 case round =>
  obtain ⟨k,hk,rfl,hga,hbr⟩:=hrel
  obtain ⟨T,hT⟩:∃ T,l.take k=T:=⟨_,rfl⟩
  rw [hT] at hga
  have HTD:=hid hT
  clear hT
  obtain ⟨po,co,rfl⟩:=hga.slc
  by_cases hlt:k<l.length
  ·obtain ⟨b,off,rfl,hR,hcells⟩:=in_at HS.out (by omega:0<l.length)
   obtain ⟨pi,ci,hargs,q0,q1,q2,q3,q4,q5,q6⟩:=hcells k hlt
   have q0:=(hbr.cell (p:=⟨b,off+k*7,none⟩) hR).trans q0
   have q1:=(hbr.cell (p:=⟨b,off+k*7+1,none⟩) hR).trans q1
   have q2:=(hbr.cell (p:=⟨b,off+k*7+2,none⟩) hR).trans q2
   have q3:=(hbr.cell (p:=⟨b,off+k*7+3,none⟩) hR).trans q3
   have q4:=(hbr.cell (p:=⟨b,off+k*7+4,none⟩) hR).trans q4
   have q5:=(hbr.cell (p:=⟨b,off+k*7+5,none⟩) hR).trans q5
   have q6:=(hbr.cell (p:=⟨b,off+k*7+6,none⟩) hR).trans q6
   have HAR:=hid (hargs.below hbr)
   have HSN:=hid (show l.take (k+1)=T++[l[k]] from by rw [List.take_succ_eq_append_getElem hlt,HTD.out])
   have HCL:=hid (show T.length+1<=1000000000000 from by rw [<- HTD.out,List.length_take];have:=HL.out;omega)
   have HAL:=hid (HA.out l[k] (List.getElem_mem hlt))
   have HLT:=hid hlt;have HBO:=hid hbr;have HGO:=hid hga
   clear hcells hR hbr hga HTD hargs
   generalize l[k]=x at *
   clear hlt
   go_wp2_with (first
    | (go_at_call 18;(refine (copyinstr_any x _ _ HAR.out HAL.out).mono ?_);rintro e w1 ⟨v1,rfl,hg1,hb1⟩;obtain ⟨p1,c1,rfl⟩:=hg1.slc;have HG1:=hid (hg1.gfA.sl (by have:=HAL.out;omega));have HB1:=hid (HBO.out.trans (hb1.mono HBO.out.size));have HGK:=hid (HGO.out.keep hb1);have HOL:=hid (fun k hk=>(HGO.out.lt k hk).2);have HZ1:=hid hb1.size;clear hg1 hb1 q0 q1 q2 q3 q4 q5 q6)
    | (at_builtin;refine wpList_pushF (K:=kIn) (x:=x) (cs:=[.int .u8 (x.kind:Int),.int .u8 (x.op:Int),.string ⟨x.dst.toArray⟩,.string ⟨x.nm.toArray⟩,.slice p1 x.args.length c1,.int .i64 x.pos.1,.int .i64 x.pos.2]) (te:=41) rfl _ _ 25 rfl Tryz.underlying25 _ 80 info_inG rfl HGK.out ⟨_,rfl,HG1.out.weaken fun k hk=>⟨Nat.le_trans HBO.out.size hk.1,hk.2,fun e=>by have:=HOL.out k e;omega⟩⟩ rfl rfl (by have:=HCL.out;omega) (by have:=HCL.out;unfold maxLen;omega) HB1.out.size ?_;intro v5 w5 hg5 hgr5 hm5;have HG5:=hid hg5;have HB5:=hid (below_push HGK.out.ga HB1.out hgr5 HB1.out.size);clear hg5 hgr5 hm5))
   go_roundw
   case rel=>exact ⟨k+1,HLT.out,by rw [wrap_next HLT.out HS.len],by rw [HSN.out];exact HG5.out,HB5.out⟩
   case measure=>exact meas_next HLT.out HS.len
  ·obtain rfl:k=l.length:=by omega
   have HBR:=hid hbr;have HGA:=hid hga
   clear hlt hbr hga
   go_wp2_with fail
   go_ret
   have hga:=HGA.out
   have hT:=HTD.out
   rw [List.take_length] at hT
   subst hT
   exact ⟨_,rfl,hga,HBR.out⟩
def fewI (x:In):In:={ x with args:=x.args.take 34 }
def fewL (l:List In):List In:=(l.take 30).map fewI
theorem take_min {α:Type} (l:List α) (n:Nat):l.take (min l.length n)=l.take n:=by
 rcases Nat.le_total l.length n with h | h
 ·rw [Nat.min_eq_left h,List.take_length,List.take_of_length_le h]
 ·rw [Nat.min_eq_right h]
theorem GF.argAt {B e:Nat} {w:World} {p:Option Addr} {c:Nat} {l:List In} (h:GF kIn B e w (.slice p l.length c) l) (k:Nat) (hk:k<l.length) :
  ∃ g pa ca,p=some ⟨g,0,none⟩/\B<=g/\w.cell? ⟨g,k*7+4,none⟩=some (.slice pa l[k].args.length ca)/\l[k].args.length<=ca/\w.frozen? ⟨g,k*7+4,none⟩=false /\
   ∀ m,m<=l[k].args.length->GF kIn B e (w.setCell ⟨g,k*7+4,none⟩ (.slice pa m ca)) (.slice p l.length c) (l.set k { l[k] with args:=l[k].args.take m }):=by
 obtain ⟨css,h1,h2⟩:=h.row
 have hb0:=h2.lt
 obtain ⟨g,rfl⟩:∃ g,p=some ⟨g,0,none⟩:=by
  rcases h2.2 with ⟨hv,h0⟩ | ⟨g,cap,cur,hv,_⟩
  ·omega
  ·injection hv with hv;exact ⟨g,hv⟩
 have hk':k<css.length:=by rw [h1.1];exact hk
 have hE:=h1.2 k hk hk'
 obtain ⟨av,hcs,hs⟩:=hE
 obtain ⟨pa,ca,rfl⟩:=hs.slc
 have hca:l[k].args.length<=ca:=by obtain ⟨_,_,_,_,e,h,_⟩:=hs;cases e;exact h
 have hn:=h1.lens
 have hat:=hn.at k 4 hk' (by decide)
 rw [hcs] at hat
 have hlen:css.flatten.length=l.length*7:=by rw [hn.len,h1.1];rfl
 have hlt:k*7+4<l.length*7:=by omega
 have hcell:=h2.cellAt (k*7+4) (show k*7+4<l.length*kIn.n from hlt)
 have hat:css.flatten[k*7+4]?=some (.slice pa l[k].args.length ca):=hat
 refine ⟨g,pa,ca,rfl,(hb0 g rfl).1,hcell.trans hat,hca,h2.frozenAt _,fun m hm=>?_⟩
 have hst:=(h2.stored (k*7+4) (.slice pa m ca)).1
 have hset:=hn.set k 4 hk' (by decide) (.slice pa m ca)
 have hset:(css.set k (css[k].set 4 (.slice pa m ca))).flatten=css.flatten.set (k*7+4) (.slice pa m ca):=hset
 refine ⟨⟨css.set k (css[k].set 4 (.slice pa m ca)),?_,?_⟩⟩
 ·have hE2:Each kIn (fun j=>B<=j/\j<w.heap.size/\(Value.slice (some ⟨g,0,none⟩) l.length c).ownBlock ≠ some j) w (css.set k (css[k].set 4 (.slice pa m ca))) (l.set k { l[k] with args:=l[k].args.take m }) :=
   h1.set k ⟨.slice pa m ca,by rw [hcs];rfl,hs.cut m hm⟩
  refine hE2.keep fun j hj=>⟨⟨hj.1,by rw [World.size_setCell];exact hj.2.1,hj.2.2⟩,heap_ot (fun e=>hj.2.2 (by rw [e];rfl)) _⟩
 ·rw [hset,List.length_set];exact hst
theorem few_next (T:List In) (k:Nat) (hk:k<T.length):((T.take k).map fewI++T.drop k).set k (fewI T[k])=(T.take (k+1)).map fewI++T.drop (k+1):=by
 have hl:((T.take k).map fewI).length=k:=by rw [List.length_map,List.length_take];omega
 rw [List.set_append_right _ _ (by omega),hl,Nat.sub_self,List.drop_eq_getElem_cons hk,List.set_cons_zero,List.take_succ_eq_append_getElem hk,List.map_append,List.append_assoc];rfl
theorem few_at (T:List In) (k:Nat) (hk:k<T.length) (h:k<((T.take k).map fewI++T.drop k).length):((T.take k).map fewI++T.drop k)[k]=T[k]:=by
 have hl:((T.take k).map fewI).length=k:=by rw [List.length_map,List.length_take];omega
 rw [List.getElem_append_right (by omega)]
 simp only [hl,Nat.sub_self,List.getElem_drop,Nat.add_zero]
theorem few_any (l:List In) (v:Value) (w:World) (h:SlG kIn (·<w.heap.size) w v l) (ha:∀ x ∈ l,x.args.length<=5864062014805) :
  Calls Tryz.prog 42 #[v] w fun e w'=>∃ v',e=.returned v'/\GF kIn w.heap.size 41 w' v' (fewL l)/\Below w.heap.size w w':=by
 obtain ⟨p,c,rfl⟩:=h.slc
 obtain ⟨m,hm⟩:∃ m,min l.length 30=m:=⟨_,rfl⟩
 have hm1:m<=l.length:=by omega
 have hmn:min (l.length:Int) 30=(m:Int):=by omega
 have hcap:l.length<=c:=by obtain ⟨_,_,p,c,e,h2,_⟩:=h;cases e;exact h2
 have hmc:m<=c:=by omega
 obtain ⟨T,hT⟩:∃ T,l.take m=T:=⟨_,rfl⟩
 have HT:=hid (show T=l.take 30 from by rw [<- hT,<- hm,take_min])
 have HTL:=hid (show T.length=m from by rw [<- hT,List.length_take];omega)
 have HM:=hid (show m<=30 from by omega)
 have HS:=hid (hT ▸ h.cut m hm1)
 have HA:=hid (show ∀ x ∈ T,x.args.length<=5864062014805 from by rw [<- hT];exact fun x hx=>ha x (List.mem_of_mem_take hx))
 clear h ha hT hcap hm
 go_enter Tryz.func42,Tryz.ntmps42
 go_upto_region 2 with (go_at_call 44;(refine (copyinstrs_any T _ _ HS.out (by rw [HTL.out];have:=HM.out;omega) HA.out).mono ?_);rintro e w1 ⟨v1,rfl,hg,hb⟩;obtain ⟨p1,c1,hv1⟩:=hg.slc;rw [HTL.out] at hv1;subst hv1;have HG1:=hid hg;have HB1:=hid hb;clear hg hb)
 clear hm1 hmn hmc
 go_wp2_with fail
 go_loopw [3] (fun iv wr=>∃ k:Nat,k<=m/\iv=.int .i64 (k:Int)/\GF kIn w.heap.size 41 wr (.slice p1 m c1) ((T.take k).map fewI++T.drop k)/\Below w.heap.size w wr) (fun iv _=>m - (intOf iv).toNat)
 case atStart=>exact ⟨0,Nat.zero_le _,rfl,by simpa using HG1.out,HB1.out⟩
 case round =>
  obtain ⟨k,hk,rfl,hg,hb⟩:=hrel
  have HLL:=hid (show ((T.take k).map fewI++T.drop k).length=m from by rw [List.length_append,List.length_map,List.length_take,List.length_drop,HTL.out];omega)
  by_cases hlt:k<m
  ·have hkT:k<T.length:=by rw [HTL.out];exact hlt
   have hkL:k<((T.take k).map fewI++T.drop k).length:=by rw [HLL.out];exact hlt
   have hg2:GF kIn w.heap.size 41 wr (.slice p1 ((T.take k).map fewI++T.drop k).length c1) ((T.take k).map fewI++T.drop k):=by rw [HLL.out];exact hg
   obtain ⟨g,pa,ca,rfl,hB,hc,hcl,hfz,hset⟩:=hg2.argAt k hkL
   rw [few_at T k hkT hkL] at hc hcl hset
   rw [HLL.out] at hset
   obtain ⟨an,han⟩:∃ n,T[k].args.length=n:=⟨_,rfl⟩
   obtain ⟨q,hq⟩:∃ q,min an 34=q:=⟨_,rfl⟩
   have hq1:q<=an:=by omega
   have hqn:min (an:Int) 34=(q:Int):=by omega
   have hq3:=hset q (by rw [han];exact hq1)
   have HSET:=hid (show GF kIn w.heap.size 41 (wr.setCell ⟨g,k*7+4,none⟩ (.slice pa q ca)) (.slice (some ⟨g,0,none⟩) m c1) ((T.take (k+1)).map fewI++T.drop (k+1)) from by
    rw [<- few_next T k hkT]
    have e:fewI T[k]={ T[k] with args:=T[k].args.take q }:=by unfold fewI;rw [<- hq,<- han,take_min]
    rw [e];exact hq3)
   rw [han] at hc hcl
   have hqc:q<=ca:=by omega
   have HB:=hid hb;have HBg:=hid hB;have HLT:=hid hlt
   clear hset hq3 hg hg2 hq han hb hB hkT hkL
   go_upto_region 5 with fail
   have hS:(fun W=>W.cell? ⟨g,k*7+4,none⟩=some (.slice pa an ca)) wr.drew:=hc
   have hFa:=fT
   refine rgN (fun W=>W.cell? ⟨g,k*7+4,none⟩=some (.slice pa an ca)) 17 (by kernel_rfl) ?_
   simp only [zP,Nat.reduceAdd]
   iterate 6 (refine npW (v:=?_) 18 (.inr hS) ?_ ?_;rotate_left;(focus intro w' _;go_simp;try rfl);simp only [aP])
   refine wpHJ_take (v:=?v1) 6 hFa rfl (by kernel_rfl) nE (Or.inl ⟨by rfl,?y1⟩) hS ?r1
   case y1=>(rintro w' s0;go_simp;try rfl)
   simp only [aP]
   iterate 4 (refine npW (v:=?_) 18 (.inr hS) ?_ ?_;rotate_left;(focus intro w' _;go_simp;try rfl);simp only [aP])
   refine wpHJ_take (v:=?v0) 11 hFa rfl (by kernel_rfl) nE (Or.inl ⟨by rfl,?y0⟩) hS ?r0
   case y0=>(rintro w' s0;go_simp;try rfl)
   simp only [aP]
   iterate 5 (refine npW (v:=?_) 18 (.inr hS) ?_ ?_;rotate_left;(focus intro w' _;go_simp;try rfl);simp only [aP])
   refine oy 17 fun K hK=>?_
   go_simp
   refine hK _ _ (.inl rfl) (dN ?_)
   clear hK K
   simp only [onlyN,Exit.then]
   clear hFa
   clear hS hc hcl hfz hq1 hqn hqc
   go_wp2_with fail
   go_roundw
   case rel=>exact ⟨k+1,HLT.out,by rw [wrap_next HLT.out (show m<=140737488355328 from by have:=HM.out;omega)],HSET.keep (Below.refl _ _).drew,(HB.setCell (p:=⟨g,k*7+4,none⟩) HBg.out _).drew⟩
   case measure=>exact meas_next HLT.out (show m<=140737488355328 from by have:=HM.out;omega)
  ·obtain rfl:k=m:=by omega
   have HG:=hid hg;have HB:=hid hb
   clear hlt hg hb hk
   go_wp2_with fail
   go_ret
   refine ⟨_,rfl,?_,HB.out⟩
   have h1:=HG.out
   have e:(T.take k).map fewI++T.drop k=fewL l:=by
    unfold fewL
    rw [<- HT.out,List.drop_of_length_le (by rw [HTL.out];exact Nat.le_refl _),List.take_of_length_le (by rw [HTL.out];exact Nat.le_refl _),List.append_nil]
   rw [<- e];exact h1
end Go.Proofs.YtoofbgoeipijcaaGreatDoor
