/-
 A part.
-/
import Derived.Test.YtoofbgoeipijcaaGreatDoorVB9
import Derived.Deep.DeepCutAuto
import Derived.Lib.ItoaMem
namespace Go.Proofs.YtoofbgoeipijcaaGreatDoor
set_option maxRecDepth 100000
set_option maxHeartbeats 6400000
set_option linter.all false
open Go.RowKit Go.Shelf
def GR {α:Type} (K:EK α) (R:Nat->Prop) (B e:Nat) (w:World) (v:Value) (l:List α):Prop :=
 ∃ css,Each K R w css l/\w.ownsRow B e K.n v l.length css.flatten
theorem GR.nil {α:Type} (K:EK α) (R:Nat->Prop) (B e:Nat) (w:World):GR K R B e w (.slice none 0 0) []:=⟨[],Each.nil,World.ownsRow_nil _ _ _ _⟩
theorem GR.slc {α:Type} {K:EK α} {R:Nat->Prop} {B e:Nat} {w:World} {v:Value} {l:List α} (h:GR K R B e w v l):∃ p c,v=.slice p l.length c:=let ⟨_,_,h⟩:=h;own_sliceG h
theorem GR.lt {α:Type} {K:EK α} {R:Nat->Prop} {B e:Nat} {w:World} {v:Value} {l:List α} (h:GR K R B e w v l):∀ k,v.ownBlock=some k->B<=k/\k<w.heap.size:=let ⟨_,_,h⟩:=h;h.lt
theorem GR.keep {α:Type} {K:EK α} {R R':Nat->Prop} {B e:Nat} {w w':World} {v:Value} {l:List α} (h:GR K R B e w v l) (hf:∀ k,R k->R' k/\w'.heap[k]?=w.heap[k]?) (ho:∀ j,v.ownBlock=some j->w'.heap[j]?=w.heap[j]?):GR K R' B e w' v l :=
 let ⟨css,h1,h2⟩:=h;⟨css,h1.keep hf,owns_keepG h2 ho⟩
theorem GR.ga {α:Type} {K:EK α} {R:Nat->Prop} {B e:Nat} {w:World} {v:Value} {l:List α} (h:GR K R B e w v l) (hR:∀ k,R k->k<w.heap.size/\v.ownBlock ≠ some k):GA K B e w v l :=
 let ⟨css,h1,h2⟩:=h;⟨⟨css,h1.keep fun k hk=>⟨hR k hk,rfl⟩,h2⟩⟩
theorem GR.sl {α:Type} {K:EK α} {R:Nat->Prop} {B e:Nat} {w:World} {v:Value} {l:List α} (h:GR K R B e w v l) (hl:l.length<=140737488355328):SlG K (fun k=>R k\/v.ownBlock=some k) w v l:=by
 obtain ⟨css,h1,h2⟩:=h
 refine ⟨css,h1.keep fun k hk=>⟨.inl hk,rfl⟩,?_⟩
 obtain ⟨hlen,h3⟩:=h2
 rcases h3 with ⟨rfl,h0⟩ | ⟨g,cap,cur,rfl,hb,hg,hnc,hcm,hcs,ht⟩
 ·obtain rfl:=List.eq_nil_of_length_eq_zero h0
  have hc0:css=[]:=List.eq_nil_of_length_eq_zero (by rw [h1.1];rfl)
  subst hc0
  exact ⟨none,0,rfl,Nat.le_refl _,Nat.zero_le _,Nat.zero_le _,.inl rfl⟩
 ·refine ⟨_,cap,rfl,hnc,hcm,hl,.inr ⟨g,0,rfl,.inr rfl,fun j hj=>?_⟩⟩
  rw [Nat.zero_add,cell_of_row w g j cur e (0,0) hg]
  have e1:(cur.toList.take (l.length*K.n))[j]?=some css.flatten[j]:=by rw [ht];exact List.getElem?_eq_getElem hj
  rw [List.getElem?_take] at e1
  split at e1
  ·simpa using e1
  ·cases e1
section
variable {P:Program}
end
def upd (O:Nat->Value) (j:Nat) (v:Value):Nat->Value:=fun i=>if i=j then v else O i
theorem upd_eq (O:Nat->Value) (j:Nat) (v:Value):upd O j v j=v:=if_pos rfl
theorem upd_ne (O:Nat->Value) {i j:Nat} (v:Value) (h:i ≠ j):upd O j v i=O i:=if_neg h
def Fin' (b:Nat) (O:Nat->Value) (w:World) (k:Nat):Prop:=k<w.heap.size/\k ≠ b/\∀ i,(O i).ownBlock ≠ some k
structure Owns (b:Nat) (O:Nat->Value) (w:World):Prop where
 ne:∀ i j k,i ≠ j->(O i).ownBlock=some k->(O j).ownBlock ≠ some k
 lt:∀ i k,(O i).ownBlock=some k->b<k/\k<w.heap.size
theorem Owns.size {b:Nat} {O:Nat->Value} {w w':World} (h:Owns b O w) (hs:w.heap.size<=w'.heap.size):Owns b O w' :=
 ⟨h.ne,fun i k hk=>let ⟨a,c⟩:=h.lt i k hk;⟨a,by omega⟩⟩
theorem Owns.moved {b:Nat} {O:Nat->Value} {w w':World} {j:Nat} {v':Value} (h:Owns b O w) (hm:Moved w (O j) v') (hs:w.heap.size<=w'.heap.size) (hb:b<w.heap.size) (hv:∀ k,v'.ownBlock=some k->k<w'.heap.size):Owns b (upd O j v') w':=by
 have hn:∀ i k,i ≠ j->(O i).ownBlock=some k->v'.ownBlock ≠ some k:=fun i k hij hk e=>by
  rcases hm with e' | ⟨q,e',hq⟩
  ·exact h.ne i j k hij hk (e'.symm.trans e)
  ·rw [e'] at e;cases e;have:=(h.lt i _ hk).2;omega
 refine ⟨fun i i' k hii hk=>?_,fun i k hk=>?_⟩
 ·by_cases h1:i=j
  ·subst h1
   rw [upd_eq] at hk
   rw [upd_ne O v' (Ne.symm hii)]
   exact fun e=>hn i' k (Ne.symm hii) e hk
  ·rw [upd_ne O v' h1] at hk
   by_cases h2:i'=j
   ·subst h2;rw [upd_eq];exact hn i k h1 hk
   ·rw [upd_ne O v' h2];exact h.ne i i' k hii hk
 ·by_cases h1:i=j
  ·subst h1
   rw [upd_eq] at hk
   refine ⟨?_,hv k hk⟩
   rcases hm with e' | ⟨q,e',hq⟩
   ·exact (h.lt i k (e'.symm.trans hk)).1
   ·rw [e'] at hk;cases hk;omega
  ·rw [upd_ne O v' h1] at hk
   obtain ⟨a,c⟩:=h.lt i k hk
   exact ⟨a,by omega⟩
theorem Fin'.size {b:Nat} {O:Nat->Value} {w w':World} {k:Nat} (h:Fin' b O w k) (hs:w.heap.size<=w'.heap.size):Fin' b O w' k:=⟨by have:=h.1;omega,h.2⟩
theorem Fin'.moved {b:Nat} {O:Nat->Value} {w w':World} {j k:Nat} {v':Value} (h:Fin' b O w k) (hm:Moved w (O j) v') (hs:w.heap.size<=w'.heap.size):Fin' b (upd O j v') w' k:=by
 refine ⟨by have:=h.1;omega,h.2.1,fun i=>?_⟩
 by_cases h1:i=j
 ·subst h1;rw [upd_eq]
  rcases hm with e' | ⟨q,e',hq⟩
  ·rw [e'];exact h.2.2 i
  ·rw [e'];intro e;cases e;have:=h.1;omega
 ·rw [upd_ne O v' h1];exact h.2.2 i
structure Step (b:Nat) (O:Nat->Value) (j:Nat) (w w':World):Prop where
 os:w'.os=w.os
 tape:w'.tape=w.tape
 output:w'.output=w.output
 size:w.heap.size<=w'.heap.size
 block:∀ k,k<w.heap.size->k ≠ b->(O j).ownBlock ≠ some k->w'.heap[k]?=w.heap[k]?
theorem Step.of_grown {b j:Nat} {O:Nat->Value} {w w':World} {o:Obj} (hg:(w.alloc o).grownBy w' (O j).ownBlock):Step b O j w w':=by
 have hs:=hg.size
 rw [sA] at hs
 refine ⟨hg.os,hg.tape,hg.output,by omega,fun k hk _ hne=>?_⟩
 rw [hg.block k (by rw [sA];omega) (fun e=>hne e.symm),heap_al,if_neg (by omega)]
theorem Step.set {b j:Nat} {O:Nat->Value} {w w':World} (h:Step b O j w w') (i:Nat) (v:Value):Step b O j w (w'.setCell ⟨b,i,none⟩ v) :=
 ⟨h.os,h.tape,h.output,by simp only [World.size_setCell];exact h.size,fun k hk hb hne=>by rw [heap_ot hb];exact h.block k hk hb hne⟩
theorem Step.below {B b j:Nat} {O:Nat->Value} {w w':World} (h:Step b O j w w') (ho:Owns b O w) (hb:B<=b) (hB:B<=w.heap.size):Below B w w' :=
 ⟨h.os,h.tape,h.output,h.size,fun k hk=>h.block k (by omega) (by omega) fun e=>by have:=(ho.lt j k e).1;omega⟩
theorem GR.stay {α:Type} {K:EK α} {B b e i j:Nat} {O:Nat->Value} {w w':World} {v':Value} {l:List α} (h:GR K (Fin' b O w) B e w (O i) l) (ho:Owns b O w) (hs:Step b O j w w') (hm:Moved w (O j) v') (hij:i ≠ j):GR K (Fin' b (upd O j v') w') B e w' (upd O j v' i) l:=by
 rw [upd_ne O v' hij]
 exact h.keep (fun k hk=>⟨hk.moved hm hs.size,hs.block k hk.1 hk.2.1 (hk.2.2 j)⟩) fun k hk=>hs.block k (ho.lt i k hk).2 (by have:=(ho.lt i k hk).1;omega) (ho.ne i j k hij hk)
end Go.Proofs.YtoofbgoeipijcaaGreatDoor
namespace Go.Proofs.YtoofbgoeipijcaaGreatDoor
set_option maxRecDepth 100000
set_option maxHeartbeats 6400000
set_option linter.all false
open Go.RowKit Go.Shelf
attribute [local go_sem] Oper.semAt_some
theorem info_strG:(Tryz.prog.info? 9).map (fun i=>(i.zero,i.size,i.bytes))=some (some (.string ⟨#[]⟩),kStr.n,16):=by kernel_rfl
theorem calls_snoc (l:List In) (k:Nat) (hk:k<l.length):callsM (l.take (k+1))=callsM (l.take k)++if l[k].kind=4 then [l[k].nm] else []:=by
 unfold callsM
 rw [List.take_succ_eq_append_getElem hk,List.filter_append,List.map_append]
 congr 1
 by_cases h:l[k].kind=4
 ·simp [h]
 ·simp [h]
theorem calls_len (l:List In):(callsM l).length<=l.length:=by
 unfold callsM;rw [List.length_map];exact List.length_filter_le _ _
theorem calls_any (l:List In) (v:Value) (w:World) (h:SlG kIn (·<w.heap.size) w v l) (hl:l.length<=100000) :
  Calls Tryz.prog 159 #[v] w fun e w'=>∃ v',e=.returned v'/\GA kStr w.heap.size 9 w' v' (callsM l)/\Below w.heap.size w w':=by
 obtain ⟨p,c,rfl⟩:=h.slc
 have HS:=hid h;have HL:=hid hl
 clear h hl
 go_enter Tryz.func159,Tryz.ntmps159
 go_wp2
 go_loopw [3,8] (fun ov iv wr=>∃ k:Nat,k<=l.length/\iv=.int .i64 (k:Int)/\GA kStr w.heap.size 9 wr ov (callsM (l.take k))/\Below w.heap.size w wr) (fun _ iv _=>l.length - (intOf iv).toNat)
 case atStart=>exact ⟨0,Nat.zero_le _,rfl,GA.nil _ _ _ _,Below.refl _ _⟩
 case round =>
  obtain ⟨k,hk,rfl,hga,hbr⟩:=hrel
  obtain ⟨po,co,rfl⟩:=hga.slc
  by_cases hlt:k<l.length
  ·obtain ⟨b,off,rfl,hR,hcells⟩:=in_at HS.out (by omega:0<l.length)
   obtain ⟨pa,ca,hsa,c0,c1,c2,c3,c4,c5,c6⟩:=hcells k hlt
   have d0:=(hbr.cell (p:=⟨b,off+k*7,none⟩) hR).trans c0
   have d1:=(hbr.cell (p:=⟨b,off+k*7+1,none⟩) hR).trans c1
   have d2:=(hbr.cell (p:=⟨b,off+k*7+2,none⟩) hR).trans c2
   have d3:=(hbr.cell (p:=⟨b,off+k*7+3,none⟩) hR).trans c3
   have d4:=(hbr.cell (p:=⟨b,off+k*7+4,none⟩) hR).trans c4
   have d5:=(hbr.cell (p:=⟨b,off+k*7+5,none⟩) hR).trans c5
   have d6:=(hbr.cell (p:=⟨b,off+k*7+6,none⟩) hR).trans c6
   have HSN:=hid (calls_snoc l k hlt)
   have HCL:=hid (show (callsM (l.take k)).length<=100000 from by have h1:=calls_len (l.take k);have h2:=HL.out;rw [List.length_take] at h1;omega)
   have HLT:=hid hlt;have HBR:=hid hbr;have HGA:=hid hga
   clear hcells hsa c0 c1 c2 c3 c4 c5 c6 hR hbr hga
   generalize l[k]=x at *
   go_upto_if 14 with fail
   obtain ⟨wo,hwo⟩:∃ W,wr.alloc (.cells #[.int .u8 (x.kind:Int),.int .u8 (x.op:Int),.string ⟨x.dst.toArray⟩,.string ⟨x.nm.toArray⟩,.slice pa x.args.length ca,.int .i64 x.pos.1,.int .i64 x.pos.2] 41)=W:=⟨_,rfl⟩
   have hbo:Below wr.heap.size wr wo:=by rw [<- hwo];exact bA
   have hbx:BxL 41 wr.heap.size (inL x (.slice pa x.args.length ca)) wo:=by rw [<- hwo];exact BxL.new _ _ _
   rw [hwo]
   have n3:wo.cell? ⟨wr.heap.size,3,none⟩=some (.string ⟨x.nm.toArray⟩):=hbx.at 3 rfl
   have HBO:=hid (HBR.trans (hbo.mono HBR.size))
   have HGO:=hid (HGA.keep hbo)
   clear hwo hbo hbx d0 d1 d2 d3 d4 d5 d6 hlt
   by_cases h4:x.kind=4
   ·have t4:((x.kind:Int) == 4)=true:=by rw [h4];rfl
    have HSN4:=hid (HSN.trans (by rw [if_pos h4]))
    clear h4
    go_wp2_with (at_builtin;refine wpList_push (K:=kStr) (x:=x.nm) (cs:=[.string ⟨x.nm.toArray⟩]) (te:=9) rfl _ _ 22 rfl Tryz.underlying22 _ 16 info_strG rfl HGO.out rfl rfl rfl (by have:=HCL.out;omega) (by have:=HCL.out;unfold maxLen;omega) HBO.out.size ?_;intro v5 w5 hg5 hgr5 hm5;have HG5:=hid hg5;have HB5:=hid (below_push HGO.out HBO.out hgr5 HBO.out.size);clear hg5 hgr5 hm5)
    go_roundw
    case rel=>exact ⟨k+1,HLT.out,by rw [wrap_next HLT.out HS.len],by rw [HSN4.out];exact HG5.out,HB5.out⟩
    case measure=>exact meas_next HLT.out HS.len
   ·have t4:((x.kind:Int) == 4)=false:=by simp;omega
    have HSN4:=hid (HSN.trans (by rw [if_neg h4,List.append_nil]))
    clear h4
    go_wp2_with fail
    go_roundw
    case rel=>exact ⟨k+1,HLT.out,by rw [wrap_next HLT.out HS.len],by rw [HSN4.out];exact HGO.out,HBO.out⟩
    case measure=>exact meas_next HLT.out HS.len
  ·obtain rfl:k=l.length:=by omega
   have HBR:=hid hbr;have HGA:=hid hga
   clear hlt hbr hga
   go_wp2_with fail
   go_ret
   have hga:=HGA.out
   rw [List.take_length] at hga
   refine ⟨_,rfl,?_,HBR.out⟩
   simpa using hga
end Go.Proofs.YtoofbgoeipijcaaGreatDoor
namespace Go.Proofs.YtoofbgoeipijcaaGreatDoor
set_option maxRecDepth 100000
set_option maxHeartbeats 6400000
set_option linter.all false
open Go.RowKit Go.Shelf Go.Lib Go.Sort
theorem holds_zero20 (w:World) (T:TypeId) (nd:Nat) (hs:nd<=24):Holds (fun (b:UInt8)=>Value.int .u8 (b.toNat:Int)) (w.alloc (.cells Lib.zeros24 T)) w.heap.size 0 (Array.replicate nd (0:UInt8)):=fun j hj=>by
 have hj':j<nd:=by simpa using hj
 refine ⟨?_,World.frozen?_alloc_new _ _ _ _⟩
 rw [World.cell?_alloc_new,zeros24_at _ (by omega),getElem!_pos _ j hj]
 simp
theorem fin20 (w:World) (o:Obj) (dk:Array UInt8) (k:Nat):Below w.heap.size w ((putRow (fun (b:UInt8)=>Value.int .u8 (b.toNat:Int)) (w.alloc o) w.heap.size 0 dk).drewN k):=by
 rw [alloc_eq_grow]
 obtain ⟨os',_,e⟩:=putRow_grow_new (fun (b:UInt8)=>Value.int .u8 (b.toNat:Int)) w #[o] w.heap.size 0 dk lrf
 rw [e]
 refine ⟨rfl,rfl,rfl,?_,fun k hk=>?_⟩
 ·show w.heap.size<=(w.heap++os').size
  simp
 ·show (w.heap++os')[k]?=_
  rw [Array.getElem?_append_left hk]
theorem fmtuint_any (u:Nat) (hu64:u<18446744073709551616) (w:World) (htab:Lib.TabIs Tryz.prog w "internal/strconv.uint64pow10" .u64 Lib.pow10Tab) :
  Calls Tryz.prog 209 #[.int .u64 (u:Int),.int .i64 10] w fun e w'=>e=.returned (.string ⟨(Lib.decDigits u).toArray⟩)/\Below w.heap.size w w':=by
 by_cases hs:u<100
 ·have hwk:IntKind.i64.wrap (u:Int)=u:=by rw [IntKind.wrap_i64];omega
  go_enter Tryz.func209,Tryz.ntmps209
  go_wp2_with (go_at_call 166;refine (Tryz.internal_strconv_small u hs _).mono ?_;rintro e w' ⟨rfl,rfl⟩)
  go_ret
  exact ⟨rfl,Below.refl _ _⟩
 ·have hu1:1<=u:=by omega
  have hnd20:Lib.nDigits u<=20:=by have:=Lib.numDigits_eq u hu1 hu64;split at this <;> omega
  have hal:Tryz.prog.arrayLen 208=24:=by kernel_rfl
  have hsl:∀ W,(Instr.sliceAt 208 (.pointer (some ⟨w.heap.size,0,none⟩)) none (some (.int .i64 (Lib.nDigits u:Int))) none).run Tryz.prog W=.ok (.slice (some ⟨w.heap.size,0,none⟩) (Lib.nDigits u) 24) W:=fun W=>by
   rw [run_sliceAt_array_h W 208 ⟨w.heap.size,0,none⟩ (by kernel_rfl) .i64 (Lib.nDigits u:Int) (by omega) (by rw [hal];omega)]
   go_simp
  have hH0:=holds_zero20 w 208 (Lib.nDigits u) (by omega)
  have hfmt:=Tryz.internal_strconv_formatBase10 w.heap.size 0 24 u (Array.replicate (Lib.nDigits u) 0) (w.alloc (.cells Lib.zeros24 208)) hH0 (by rw [Array.size_replicate];exact Lib.lt_pow_nDigits u) hu64 (by rw [Array.size_replicate];omega)
  rw [Array.size_replicate] at hfmt
  have HH0:=Lib.hid hH0
  clear hH0 hal
  go_enter Tryz.func209,Tryz.ntmps209
  go_wp2_with (first
   | (go_at_call 167;refine (Tryz.internal_strconv_numDigits u hu1 hu64 _ (Lib.tabIs_alloc htab _)).mono ?_;rintro e w' ⟨rfl,rfl⟩))
  refine hfmt.mono ?_
  rintro e w' ⟨rfl,k,v',dk,rfl,hF⟩
  have hcv:(convert 51 9 (.slice (some ⟨w.heap.size,0,none⟩) (Lib.nDigits u) 24)).run Tryz.prog ((putRow (fun (b:UInt8)=>Value.int .u8 (b.toNat:Int)) (w.alloc (.cells Lib.zeros24 208)) w.heap.size 0 dk).drewN k)=.ok (.string ⟨(Lib.decDigits u).toArray⟩) ((putRow (fun (b:UInt8)=>Value.int .u8 (b.toNat:Int)) (w.alloc (.cells Lib.zeros24 208)) w.heap.size 0 dk).drewN k):=by
   have h:=run_convert_bytes_back (P:=Tryz.prog) ((putRow (fun (b:UInt8)=>Value.int .u8 (b.toNat:Int)) (w.alloc (.cells Lib.zeros24 208)) w.heap.size 0 dk).drewN k) 51 9 5 ⟨w.heap.size,0,none⟩ 24 (Lib.decDigits u) Tryz.underlying51 Tryz.underlying5 Tryz.underlying9 (fun j hj=>by
    rw [Lib.row_is_numeral hF j hj,Lib.add_plain,World.cell?_drewN]
    exact cell?_putRow (fun (b:UInt8)=>Value.int .u8 (b.toNat:Int)) _ w.heap.size 0 _ dk HH0.out (by rw [hF.size,Array.size_replicate]) j (by rw [hF.size];rw [Lib.decDigits_length] at hj;exact hj))
   rw [Lib.decDigits_length] at h
   exact h
  go_wp2
  go_ret
  exact ⟨rfl,fin20 w (.cells Lib.zeros24 208) dk k⟩
theorem formatuint_any (u:Nat) (hu64:u<18446744073709551616) (w:World) (htab:Lib.TabIs Tryz.prog w "internal/strconv.uint64pow10" .u64 Lib.pow10Tab) :
  Calls Tryz.prog 170 #[.int .u64 (u:Int),.int .i64 10] w fun e w'=>e=.returned (.string ⟨(Lib.decDigits u).toArray⟩)/\Below w.heap.size w w':=by
 go_enter Tryz.func170,Tryz.ntmps170
 go_wp2_with (go_at_call 209;refine (fmtuint_any u hu64 _ htab).mono ?_;rintro e w' ⟨rfl,hb⟩)
 go_ret
 exact ⟨rfl,hb⟩
end Go.Proofs.YtoofbgoeipijcaaGreatDoor
namespace Go.Proofs.YtoofbgoeipijcaaGreatDoor
set_option maxRecDepth 100000
set_option maxHeartbeats 6400000
set_option linter.all false
open Go.RowKit Go.Shelf
attribute [local go_sem] Oper.semAt_some
def sv (s:Bs):Value := .string ⟨s.toArray⟩
theorem each_sv {R:Nat->Prop} {w:World}:∀ {css:List (List Value)} {l:List Bs},Each kStr R w css l->css.flatten=l.map sv
 | [],[],_=>rfl
 | [],_ :: _,h=>by have:=h.1;simp at this
 | _ :: _,[],h=>by have:=h.1;simp at this
 | c :: css,x :: l,h=>by
  have h0:c=[sv x]:=h.2 0 (by simp) (by simp)
  have ht:Each kStr R w css l:=⟨by have:=h.1;simpa using this,fun i hi hi'=>by have:=h.2 (i+1) (by simp;omega) (by simp;omega);simpa using this⟩
  rw [List.flatten_cons,each_sv ht,h0];rfl
theorem SlG.strs {R:Nat->Prop} {w:World} {p:Option Addr} {n c:Nat} {l:List Bs} (h:SlG kStr R w (.slice p n c) l):n=l.length/\l.length<=c/\l.length<=140737488355328/\RowR R w p (l.map sv):=by
 obtain ⟨css,h1,p',c',e,h2,h3,h4,h5⟩:=h
 cases e
 rw [each_sv h1] at h5
 exact ⟨rfl,h2,h4,h5⟩
theorem GA.litS {B:Nat} (w:World) (te:TypeId) (xs:List Bs) (h0:xs ≠ []) (hl:xs.length<=100) (hB:B<=w.heap.size):GA kStr B te (w.alloc (.cells (xs.map sv).toArray te)) (.slice (some ⟨w.heap.size,0,none⟩) xs.length xs.length) xs:=by
 refine ⟨⟨xs.map fun x=>[sv x],⟨by simp,fun i hi hi'=>by simp;rfl⟩,?_⟩⟩
 have hf:(xs.map fun x=>[sv x]).flatten=xs.map sv:=by induction xs with
  | nil=>rfl
  | cons x r ih=>simp only [List.map_cons,List.flatten_cons,List.singleton_append];congr 1;exact (by clear ih h0 hl;induction r with | nil=>rfl | cons y r ih=>simp only [List.map_cons,List.flatten_cons,List.singleton_append,ih])
 rw [hf]
 refine ⟨by simp [kStr],.inr ⟨w.heap.size,xs.length,(xs.map sv).toArray,rfl,hB,by rw [heap_al,if_pos rfl],Nat.le_refl _,by unfold maxLen;omega,by simp [kStr],?_⟩⟩
 simp only [kStr,Nat.mul_one]
 exact List.take_of_length_le (by simp)
theorem args_snoc (l:List Ag) (k:Nat) (hk:k<l.length):(l.take (k+1)).map argT=(l.take k).map argT++[argT l[k]]:=by
 rw [List.take_succ_eq_append_getElem hk,List.map_append];rfl
theorem operands_any (l:List Ag) (v:Value) (w:World) (h:SlG kAg (·<w.heap.size) w v l) (hl:l.length<=100000) (hn:∀ a ∈ l,a.num<18446744073709551616) (ht:Lib.TabIs Tryz.prog w "internal/strconv.uint64pow10" .u64 Lib.pow10Tab) :
  Calls Tryz.prog 130 #[v] w fun e w'=>∃ v',e=.returned v'/\GA kStr w.heap.size 9 w' v' (l.map argT)/\Below w.heap.size w w':=by
 obtain ⟨p,c,rfl⟩:=h.slc
 have HS:=hid h;have HL:=hid hl;have HT:=hid ht;have HNU:=hid hn
 clear h hl ht hn
 go_enter Tryz.func130,Tryz.ntmps130
 go_wp2
 go_loopw [3,5,8] (fun ov v5 iv wr=>∃ k:Nat,k<=l.length/\iv=.int .i64 (k:Int)/\GA kStr w.heap.size 9 wr ov ((l.take k).map argT)/\Below w.heap.size w wr) (fun _ _ iv _=>l.length - (intOf iv).toNat)
 case atStart=>exact ⟨0,Nat.zero_le _,rfl,GA.nil _ _ _ _,Below.refl _ _⟩
 case round =>
  obtain ⟨k,hk,rfl,hga,hbr⟩:=hrel
  obtain ⟨T,hT⟩:∃ T,(l.take k).map argT=T:=⟨_,rfl⟩
  rw [hT] at hga
  have HTD:=hid hT
  clear hT
  obtain ⟨po,co,rfl⟩:=hga.slc
  by_cases hlt:k<l.length
  ·obtain ⟨b,off,rfl,hR,hcells⟩:=ag_at HS.out (by omega:0<l.length)
   obtain ⟨c0,c1⟩:=hcells k hlt
   have d0:=(hbr.cell (p:=⟨b,off+k*2,none⟩) hR).trans c0
   have d1:=(hbr.cell (p:=⟨b,off+k*2+1,none⟩) hR).trans c1
   have HSN:=hid ((args_snoc l k hlt).trans (by rw [HTD.out]))
   have HNK:=hid (HNU.out l[k] (List.getElem_mem hlt))
   have HCL:=hid (show T.length<=100000 from by rw [<- HTD.out,List.length_map,List.length_take];have:=HL.out;omega)
   have HLT:=hid hlt;have HBR:=hid hbr;have HGA:=hid hga
   clear hcells c0 c1 hR hbr hga HTD
   generalize l[k]=x at *
   go_upto_region 5 with fail
   obtain ⟨wo,hwo⟩:∃ W,wr.alloc (.cells #[.string ⟨x.nm.toArray⟩,.int .u64 (x.num:Int)] 43)=W:=⟨_,rfl⟩
   have hbo:Below wr.heap.size wr wo:=by rw [<- hwo];exact bA
   have hbx:BxL 43 wr.heap.size [.string ⟨x.nm.toArray⟩,.int .u64 (x.num:Int)] wo:=by rw [<- hwo];exact BxL.new _ _ _
   rw [hwo]
   obtain ⟨n0,n1⟩:=hbx.p2
   have HBO:=hid (HBR.trans (hbo.mono HBR.size))
   have HGO:=hid (HGA.keep hbo)
   have HTO:=hid (tab_below HBO.out lrf HT.out)
   clear hwo hbo hbx d0 d1 hlt
   by_cases h0:x.nm=[]
   ·have t4:x.nm.isEmpty=true:=by rw [h0];rfl
    have HA:=hid (show argT x=Lib.decDigits x.num from by unfold argT;rw [if_pos h0])
    clear h0
    go_wp2_with (first
     | (go_at_call 170;(refine (formatuint_any x.num HNK.out _ HTO.out).mono ?_);rintro e w1 ⟨rfl,hb1⟩;have HB1:=hid (HBO.out.trans (hb1.mono HBO.out.size));have HG1:=hid (HGO.out.keep hb1);clear hb1)
     | (at_builtin;refine wpList_push (K:=kStr) (x:=Lib.decDigits x.num) (cs:=[.string ⟨(Lib.decDigits x.num).toArray⟩]) (te:=9) rfl _ _ 22 rfl Tryz.underlying22 _ 16 info_strG rfl HG1.out rfl rfl rfl (by have:=HCL.out;omega) (by have:=HCL.out;unfold maxLen;omega) HB1.out.size ?_;intro v5 w5 hg5 hgr5 hm5;have HG5:=hid hg5;have HB5:=hid (below_push HG1.out HB1.out hgr5 HB1.out.size);clear hg5 hgr5 hm5))
    go_roundw
    case rel=>exact ⟨k+1,HLT.out,by rw [wrap_next HLT.out HS.len],by rw [HSN.out,HA.out];exact HG5.out,HB5.out⟩
    case measure=>exact meas_next HLT.out HS.len
   ·have t4:x.nm.isEmpty=false:=by simpa using h0
    have HA:=hid (show argT x=x.nm from by unfold argT;rw [if_neg h0])
    clear h0
    go_wp2_with (at_builtin;refine wpList_push (K:=kStr) (x:=x.nm) (cs:=[.string ⟨x.nm.toArray⟩]) (te:=9) rfl _ _ 22 rfl Tryz.underlying22 _ 16 info_strG rfl HGO.out rfl rfl rfl (by have:=HCL.out;omega) (by have:=HCL.out;unfold maxLen;omega) HBO.out.size ?_;intro v5 w5 hg5 hgr5 hm5;have HG5:=hid hg5;have HB5:=hid (below_push HGO.out HBO.out hgr5 HBO.out.size);clear hg5 hgr5 hm5)
    go_roundw
    case rel=>exact ⟨k+1,HLT.out,by rw [wrap_next HLT.out HS.len],by rw [HSN.out,HA.out];exact HG5.out,HB5.out⟩
    case measure=>exact meas_next HLT.out HS.len
  ·obtain rfl:k=l.length:=by omega
   have HBR:=hid hbr;have HGA:=hid hga
   clear hlt hbr hga
   go_wp2_with fail
   go_ret
   have hga:=HGA.out
   have hT:=HTD.out
   rw [List.take_length] at hT
   subst hT
   exact ⟨_,rfl,hga,HBR.out⟩
theorem ml_id (l:List Bs):(l.map fun s:Bs=>(⟨s.toArray⟩:ByteArray)).map (·.data.toList)=l:=by
 rw [List.map_map];exact (List.map_congr_left fun s _=>rfl).trans (List.map_id _)
theorem joinS_any (l:List Bs) (v:Value) (R:Nat->Prop) (w:World) (h:SlG kStr R w v l) (hR:∀ k,R k->k<w.heap.size) (hlen:(jn l).length<=140737488355328) :
  Calls Tryz.prog 36 #[v,.string ⟨#[32]⟩] w fun e w'=>e=.returned (.string ⟨(jn l).toArray⟩)/\Below w.heap.size w w':=by
 obtain ⟨p,c,rfl⟩:=h.slc
 obtain ⟨_,h1,h2,hr⟩:=h.strs
 rcases l with _ | ⟨x,r⟩
 ·exact (Tryz.strings_Join_none p c ⟨#[32]⟩ w).mono fun e w' h=>⟨h.1,by rw [h.2];exact Below.refl _ _⟩
 ·obtain ⟨b,off,rfl,hb,hc⟩:=hr.at 0 (by simp)
  have hml:=ml_id (x :: r)
  have:=Tryz.strings_Join b off c ((x :: r).map fun s=>⟨s.toArray⟩) ⟨#[32]⟩ w (fun j y hj=>by
   rw [List.getElem?_map] at hj
   obtain ⟨s,hs,rfl⟩:=Option.map_eq_some_iff.1 hj
   obtain ⟨hjl,rfl⟩:=List.getElem?_eq_some_iff.1 hs
   rw [hc j (by rw [List.length_map];exact hjl),List.getElem_map];rfl) (hR b hb) (by rw [List.length_map];exact h2) (by rw [List.length_map];exact h1) (by rw [hml];exact hlen)
  rw [hml,List.length_map] at this
  exact this
theorem GA.strs {B:Nat} {e:TypeId} {w:World} {v:Value} {l:List Bs} (h:GA kStr B e w v l):w.ownsRow B e 1 v l.length (l.map sv):=by
 obtain ⟨css,h1,h2⟩:=h.row
 rw [each_sv h1] at h2
 exact h2
theorem GA.ofStrs {B:Nat} {e:TypeId} {w:World} {v:Value} {l:List Bs} (h:w.ownsRow B e 1 v l.length (l.map sv)):GA kStr B e w v l:=by
 refine ⟨⟨l.map fun x=>[sv x],⟨by simp,fun i hi hi'=>by simp;rfl⟩,?_⟩⟩
 have hf:(l.map fun x=>[sv x]).flatten=l.map sv:=by
  clear h
  induction l with
  | nil=>rfl
  | cons x r ih=>simp only [List.map_cons,List.flatten_cons,List.singleton_append,ih]
 rw [hf];exact h
theorem sv_one (l:List Bs):∀ u ∈ l.map sv,u.oneCell'=true:=by
 intro u hu
 obtain ⟨s,_,rfl⟩:=List.mem_map.1 hu
 rfl
theorem words_any (L:List Bs) (l:List Ag) (v vl:Value) (B:Nat) (w:World) (hL:GA kStr B 9 w vl L) (hB:B<=w.heap.size) (hLl:L.length<=100) (h:SlG kAg (·<w.heap.size) w v l) (hl:l.length<=100000) (hn:∀ a ∈ l,a.num<18446744073709551616)
  (ht:Lib.TabIs Tryz.prog w "internal/strconv.uint64pow10" .u64 Lib.pow10Tab) (hlen:(jn (L++l.map argT)).length<=140737488355328) :
  Calls Tryz.prog 89 #[v,vl] w fun e w'=>e=.returned (.string ⟨(jn (L++l.map argT)).toArray⟩)/\Below B w w':=by
 obtain ⟨p,c,rfl⟩:=h.slc
 obtain ⟨pl,cl,rfl⟩:=hL.slc
 obtain ⟨T,hT⟩:∃ T,l.map argT=T:=⟨_,rfl⟩
 have hTl:T.length<=100000:=by rw [<- hT,List.length_map];exact hl
 rw [hT] at hlen ⊢
 obtain ⟨U,hU⟩:∃ U,L++T=U:=⟨_,rfl⟩
 rw [hU] at hlen ⊢
 have HUL:=hid (show U.length<=100100 from by rw [<- hU,List.length_append];omega)
 have HTD:=hid hT;have HUD:=hid hU
 have HS:=hid h;have HGL:=hid hL;have HLN:=hid hlen;have HLL:=hid (And.intro hLl (And.intro hTl hl));have HBS:=hid hB;have HNU:=hid hn;have HT:=hid ht
 clear h hL hlen hLl hl hB hn ht hT hTl hU
 go_enter Tryz.func89,Tryz.ntmps89
 go_upto_region 1 with fail
 go_wp2_with (first
  | (go_at_call 130;(refine (operands_any l _ _ HS.out HLL.out.2.2 HNU.out HT.out).mono ?_);rintro e w1 ⟨v1,rfl,hg1,hb1⟩;rw [HTD.out] at hg1;obtain ⟨p1,c1,rfl⟩:=hg1.slc;have HG1:=hid hg1;have HB1:=hid hb1;have HG2:=hid (HGL.out.keep hb1);have HSL:=hid (hg1.sl (by have:=HLL.out.2;omega));clear hg1 hb1)
  | (at_builtin;refine wpList_app (R:=(·<w1.heap.size)) _ rfl _ _ 22 rfl B 9 _ 16 Tryz.underlying22 info_strG rfl _ L.length (L.map sv) rfl HG2.out.strs _ _ _ (T.map sv) rfl (by rw [List.length_map]) HSL.out.strs.2.2.2 (sv_one _) (by have:=HLL.out;omega) (by have:=HLL.out;unfold maxLen;omega) (by have:=HBS.out;have:=HB1.out.size;omega) ?_;intro v5 w5 ho5 hg5 hv5;have HB5:=hid (((HB1.out.mono HBS.out).trans (Below.refl B w1)).grown hg5 (by have:=HBS.out;have:=HB1.out.size;omega) (own_ge HG2.out.strs));rw [<- List.length_append,<- List.map_append,HUD.out] at ho5;have HG5:=hid (GA.ofStrs ho5);obtain ⟨p5,c5,rfl⟩:=HG5.out.slc;clear ho5 hg5 hv5)
  | (go_at_call 36;(refine (joinS_any U _ _ _ (HG5.out.sl (by have:=HUL.out;omega)) (fun _ h=>h) HLN.out).mono ?_);rintro e w6 ⟨rfl,hb6⟩;have HB6:=hid (HB5.out.trans (hb6.mono (by have:=HBS.out;have:=HB5.out.size;omega)));clear hb6))
 go_ret
 exact ⟨rfl,HB6.out⟩
end Go.Proofs.YtoofbgoeipijcaaGreatDoor
