/-
 What a function calls; loops.
-/
import Derived.Test.YtoofbgoeipijcaaGreatDoorVB8
import Derived.Deep.DeepCutAuto
import Derived.Test.YtoofbgoeipijcaaGreatDoorVB6
import Derived.Test.YtoofbgoeipijcaaGreatDoorVB7
namespace Go.Proofs.YtoofbgoeipijcaaGreatDoor
set_option linter.unusedSimpArgs false
set_option linter.unusedVariables false
open Go.RowKit Go.Shelf
attribute [local go_sem] Oper.semAt_some
theorem info_strG:(Tryz.prog.info? 9).map (fun i=>(i.zero,i.size,i.bytes))=some (some (.string ⟨#[]⟩),kStr.n,16):=by kernel_rfl
theorem calls_snoc (l:List In) (k:Nat) (hk:k<l.length):callsM (l.take (k+1))=callsM (l.take k)++if l[k].kind=4 then [l[k].nm] else []:=by
 unfold callsM
 rw [List.take_succ_eq_append_getElem hk,List.filter_append,List.map_append]
 congr 1
 by_cases h:l[k].kind=4
 ·simp [h]
 ·simp [h]
theorem calls_len (l:List In):(callsM l).length≤l.length:=by
 unfold callsM;rw [List.length_map];exact List.length_filter_le _ _
set_option maxRecDepth 100000 in
set_option maxHeartbeats 2000000 in
theorem calls_any (l:List In) (v:Value) (w:World) (h:SlG kIn (·<w.heap.size) w v l) (hl:l.length≤100000) :
  Calls Tryz.prog 159 #[v] w fun e w'=>∃ v',e = .returned v'∧GA kStr w.heap.size 9 w' v' (callsM l)∧Below w.heap.size w w':=by
 obtain ⟨p,c,rfl⟩:=h.slc
 have HS:=hid h;have HL:=hid hl
 clear h hl
 go_enter Tryz.func159,Tryz.ntmps159
 go_wp2
 go_loopw [3,8] (fun ov iv wr=>∃ k:Nat,k≤l.length∧iv = .int .i64 (k:Int)∧GA kStr w.heap.size 9 wr ov (callsM (l.take k))∧Below w.heap.size w wr) (fun _ iv _=>l.length - (intOf iv).toNat)
 case atStart=>exact ⟨0,Nat.zero_le _,rfl,GA.nil _ _ _ _,Below.refl _ _⟩
 case round =>
  obtain ⟨k,hk,rfl,hga,hbr⟩:=hrel
  obtain ⟨po,co,rfl⟩:=hga.slc
  by_cases hlt:k<l.length
  ·obtain ⟨b,off,rfl,hR,hcells⟩:=in_at HS.out (by omega:0<l.length)
   obtain ⟨pa,ca,hsa,c0,c1,c2,c3,c4,c5,c6⟩:=hcells k hlt
   have d0:=(hbr.cell (p:=⟨b,off+k*7,none⟩) hR).trans c0
   have d1:=(hbr.cell (p:=⟨b,off+k*7+1,none⟩) hR).trans c1
   have d2:=(hbr.cell (p:=⟨b,off+k*7+2,none⟩) hR).trans c2
   have d3:=(hbr.cell (p:=⟨b,off+k*7+3,none⟩) hR).trans c3
   have d4:=(hbr.cell (p:=⟨b,off+k*7+4,none⟩) hR).trans c4
   have d5:=(hbr.cell (p:=⟨b,off+k*7+5,none⟩) hR).trans c5
   have d6:=(hbr.cell (p:=⟨b,off+k*7+6,none⟩) hR).trans c6
   have HSN:=hid (calls_snoc l k hlt)
   have HCL:=hid (show (callsM (l.take k)).length≤100000 from by have h1:=calls_len (l.take k);have h2:=HL.out;rw [List.length_take] at h1;omega)
   have HLT:=hid hlt;have HBR:=hid hbr;have HGA:=hid hga
   clear hcells hsa c0 c1 c2 c3 c4 c5 c6 hR hbr hga
   generalize l[k]=x at *
   go_upto_if 14 with fail
   obtain ⟨wo,hwo⟩:∃ W,wr.alloc (.cells #[.int .u8 (x.kind:Int),.int .u8 (x.op:Int),.string ⟨x.dst.toArray⟩,.string ⟨x.nm.toArray⟩,.slice pa x.args.length ca,.int .i64 x.pos.1,.int .i64 x.pos.2] 41)=W:=⟨_,rfl⟩
   have hbo:Below wr.heap.size wr wo:=by rw [← hwo];exact (Below.refl _ _).alloc (Nat.le_refl _) _
   have hbx:BxL 41 wr.heap.size (inL x (.slice pa x.args.length ca)) wo:=by rw [← hwo];exact BxL.new _ _ _
   rw [hwo]
   have n3:wo.cell? ⟨wr.heap.size,3,none⟩=some (.string ⟨x.nm.toArray⟩):=hbx.at 3 rfl
   have HBO:=hid (HBR.out.trans (hbo.mono HBR.out.size))
   have HGO:=hid (HGA.out.keep hbo)
   clear hwo hbo hbx d0 d1 d2 d3 d4 d5 d6 hlt
   by_cases h4:x.kind=4
   ·have t4:((x.kind:Int) == 4)=true:=by rw [h4];rfl
    have HSN4:=hid (HSN.out.trans (by rw [if_pos h4]))
    clear h4
    go_wp2_with (at_builtin;refine wpList_push (K:=kStr) (x:=x.nm) (cs:=[.string ⟨x.nm.toArray⟩]) (te:=9) rfl _ _ 22 rfl Tryz.underlying22 _ 16 info_strG rfl HGO.out rfl rfl rfl (by have:=HCL.out;omega) (by have:=HCL.out;unfold maxLen;omega) HBO.out.size ?_;intro v5 w5 hg5 hgr5 hm5;have HG5:=hid hg5;have HB5:=hid (below_push HGO.out HBO.out hgr5 HBO.out.size);clear hg5 hgr5 hm5)
    go_roundw
    case rel=>exact ⟨k+1,HLT.out,by rw [wrap_next HLT.out HS.out.len],by rw [HSN4.out];exact HG5.out,HB5.out⟩
    case measure=>exact meas_next HLT.out HS.out.len
   ·have t4:((x.kind:Int) == 4)=false:=by simp;omega
    have HSN4:=hid (HSN.out.trans (by rw [if_neg h4,List.append_nil]))
    clear h4
    go_wp2_with fail
    go_roundw
    case rel=>exact ⟨k+1,HLT.out,by rw [wrap_next HLT.out HS.out.len],by rw [HSN4.out];exact HGO.out,HBO.out⟩
    case measure=>exact meas_next HLT.out HS.out.len
  ·obtain rfl:k=l.length:=by omega
   have HBR:=hid hbr;have HGA:=hid hga
   clear hlt hbr hga
   go_wp2_with fail
   go_ret
   have hga:=HGA.out
   rw [List.take_length] at hga
   refine ⟨_,rfl,?_,HBR.out⟩
   simpa using hga
theorem info_ag:(Tryz.prog.info? 43).map (fun i=>(i.zero,i.size,i.bytes))=some (some (.agg #[.string ⟨#[]⟩,.int .u64 0]),kAg.n,24):=by kernel_rfl
set_option maxRecDepth 100000 in
set_option maxHeartbeats 2000000 in
theorem copyargs_any (l:List Ag) (v:Value) (w:World) (h:SlG kAg (·<w.heap.size) w v l) (hl:l.length≤5864062014805) :
  Calls Tryz.prog 62 #[v] w fun e w'=>∃ v',e = .returned v'∧GA kAg w.heap.size 43 w' v' l∧Below w.heap.size w w':=by
 obtain ⟨p,c,rfl⟩:=h.slc
 have HS:=hid h;have HL:=hid hl
 clear h hl
 go_enter Tryz.func62,Tryz.ntmps62
 go_wp2
 go_loopw [3,4] (fun ov iv wr=>∃ k:Nat,k≤l.length∧iv = .int .i64 (k:Int)∧GA kAg w.heap.size 43 wr ov (l.take k)∧Below w.heap.size w wr) (fun _ iv _=>l.length - (intOf iv).toNat)
 case atStart=>exact ⟨0,Nat.zero_le _,rfl,GA.nil _ _ _ _,Below.refl _ _⟩
 case round =>
  obtain ⟨k,hk,rfl,hga,hbr⟩:=hrel
  obtain ⟨T,hT⟩:∃ T,l.take k=T:=⟨_,rfl⟩
  rw [hT] at hga
  have HTD:=hid hT
  clear hT
  obtain ⟨po,co,rfl⟩:=hga.slc
  by_cases hlt:k<l.length
  ·obtain ⟨b,off,rfl,hR,hcells⟩:=ag_at HS.out (by omega:0<l.length)
   obtain ⟨c0,c1⟩:=hcells k hlt
   have d0:=(hbr.cell (p:=⟨b,off+k*2,none⟩) hR).trans c0
   have d1:=(hbr.cell (p:=⟨b,off+k*2+1,none⟩) hR).trans c1
   have HSN:=hid (show l.take (k+1)=T++[l[k]] from by rw [List.take_succ_eq_append_getElem hlt,HTD.out])
   have HCL:=hid (show T.length+1≤5864062014805 from by rw [← HTD.out,List.length_take];have:=HL.out;omega)
   have HLT:=hid hlt;have HBO:=hid hbr;have HGO:=hid hga
   clear hcells c0 c1 hR hbr hga HTD
   generalize l[k]=x at *
   clear hlt
   go_wp2_with (at_builtin;refine wpList_push (K:=kAg) (x:=x) (cs:=[.string ⟨x.nm.toArray⟩,.int .u64 (x.num:Int)]) (te:=43) rfl _ _ 37 rfl Tryz.underlying37 _ 24 info_ag rfl HGO.out rfl rfl rfl (by have:=HCL.out;omega) (by have:=HCL.out;unfold maxLen;omega) HBO.out.size ?_;intro v5 w5 hg5 hgr5 hm5;have HG5:=hid hg5;have HB5:=hid (below_push HGO.out HBO.out hgr5 HBO.out.size);clear hg5 hgr5 hm5)
   go_roundw
   case rel=>exact ⟨k+1,HLT.out,by rw [wrap_next HLT.out HS.out.len],by rw [HSN.out];exact HG5.out,HB5.out⟩
   case measure=>exact meas_next HLT.out HS.out.len
  ·obtain rfl:k=l.length:=by omega
   have HBR:=hid hbr;have HGA:=hid hga
   clear hlt hbr hga
   go_wp2_with fail
   go_ret
   have hga:=HGA.out
   have hT:=HTD.out
   rw [List.take_length] at hT
   subst hT
   exact ⟨_,rfl,hga,HBR.out⟩
theorem ag_keepOwn {B e:Nat} {w w':World} {v:Value} {l:List Ag} (h:GA kAg B e w v l) (hs:w.heap.size≤w'.heap.size) (hf:∀ j,v.ownBlock=some j→w'.heap[j]?=w.heap[j]?):GA kAg B e w' v l:=by
 obtain ⟨css,h1,h2⟩:=h.row
 exact ⟨⟨css,⟨h1.1,fun i hi hi'=>h1.2 i hi hi'⟩,owns_keepG h2 hf⟩⟩
theorem ag_base {B B' e:Nat} {w:World} {v:Value} {l:List Ag} (h:GA kAg B e w v l) (hB:B'≤B):GA kAg B' e w v l:=by
 obtain ⟨css,h1,h2⟩:=h.row
 refine ⟨⟨css,h1,h2.1,?_⟩⟩
 rcases h2.2 with h | ⟨g,cap,cur,h3,hb,h4⟩
 ·exact .inl h
 ·exact .inr ⟨g,cap,cur,h3,Nat.le_trans hB hb,h4⟩
set_option maxRecDepth 100000 in
set_option maxHeartbeats 4000000 in
theorem copyinstr_any (x:In) (v:Value) (w:World) (h:SlG kAg (·<w.heap.size) w v x.args) (hl:x.args.length≤5864062014805) :
  Calls Tryz.prog 18 #[.agg #[.int .u8 (x.kind:Int),.int .u8 (x.op:Int),.string ⟨x.dst.toArray⟩,.string ⟨x.nm.toArray⟩,v,.int .i64 x.pos.1,.int .i64 x.pos.2]] w fun e w' =>
   ∃ v',e = .returned (.agg #[.int .u8 (x.kind:Int),.int .u8 (x.op:Int),.string ⟨x.dst.toArray⟩,.string ⟨x.nm.toArray⟩,v',.int .i64 x.pos.1,.int .i64 x.pos.2])∧GA kAg w.heap.size 43 w' v' x.args∧Below w.heap.size w w':=by
 obtain ⟨pa,ca,rfl⟩:=h.slc
 have HSL:=hid h;have HL:=hid hl
 clear h hl
 go_enter Tryz.func18,Tryz.ntmps18
 go_upto_region 1 with fail
 obtain ⟨w2,hw2⟩:∃ W,(w.alloc (.cells #[.int .u8 (x.kind:Int),.int .u8 (x.op:Int),.string ⟨x.dst.toArray⟩,.string ⟨x.nm.toArray⟩,.slice pa x.args.length ca,.int .i64 x.pos.1,.int .i64 x.pos.2] 41)).alloc (.cells #[.int .u8 0,.int .u8 0,.string ⟨#[]⟩,.string ⟨#[]⟩,.slice none 0 0,.int .i64 0,.int .i64 0] 41)=W:=⟨_,rfl⟩
 have HB2:=hid (show Below w.heap.size w w2 from by rw [← hw2];exact ((Below.refl _ _).alloc (Nat.le_refl _) _).alloc (by rw [World.size_alloc];omega) _)
 have HX2:=hid (show BxL 41 w.heap.size [.int .u8 (x.kind:Int),.int .u8 (x.op:Int),.string ⟨x.dst.toArray⟩,.string ⟨x.nm.toArray⟩,.slice pa x.args.length ca,.int .i64 x.pos.1,.int .i64 x.pos.2] w2 from by rw [← hw2];exact (BxL.new _ _ _).al _)
 have HT2:=hid (show BxL 41 (w.heap.size+1) [.int .u8 0,.int .u8 0,.string ⟨#[]⟩,.string ⟨#[]⟩,.slice none 0 0,.int .i64 0,.int .i64 0] w2 from by rw [← hw2];have:=BxL.new 41 (w.alloc (.cells #[.int .u8 (x.kind:Int),.int .u8 (x.op:Int),.string ⟨x.dst.toArray⟩,.string ⟨x.nm.toArray⟩,.slice pa x.args.length ca,.int .i64 x.pos.1,.int .i64 x.pos.2] 41)) [.int .u8 0,.int .u8 0,.string ⟨#[]⟩,.string ⟨#[]⟩,.slice none 0 0,.int .i64 0,.int .i64 0];rw [World.size_alloc] at this;exact this)
 have HS2:=hid (show w2.heap.size=w.heap.size+2 from by rw [← hw2,World.size_alloc,World.size_alloc])
 rw [hw2]
 clear hw2
 have x4:w2.cell? ⟨w.heap.size,4,none⟩=some (.slice pa x.args.length ca):=HX2.out.at 4 rfl
 go_wp2_with (go_at_call 62;(refine (copyargs_any x.args _ _ (HSL.out.below HB2.out) HL.out).mono ?_);rintro e w3 ⟨v3,rfl,hg3,hb⟩;obtain ⟨p3,q3,rfl⟩:=hg3.slc;obtain ⟨c0,c1,c2,c3,c4,c5,c6⟩:=(HX2.out.bel hb).p7;obtain ⟨e0,e1,e2,e3,e4,e5,e6⟩:=(HT2.out.bel hb).p7;have f0:w3.frozen? ⟨w.heap.size+1,0,none⟩=false:=(HT2.out.bel hb).fr 0;have f1:w3.frozen? ⟨w.heap.size+1,1,none⟩=false:=(HT2.out.bel hb).fr 1;have f2:w3.frozen? ⟨w.heap.size+1,2,none⟩=false:=(HT2.out.bel hb).fr 2;have f3:w3.frozen? ⟨w.heap.size+1,3,none⟩=false:=(HT2.out.bel hb).fr 3;have f4:w3.frozen? ⟨w.heap.size+1,4,none⟩=false:=(HT2.out.bel hb).fr 4;have f5:w3.frozen? ⟨w.heap.size+1,5,none⟩=false:=(HT2.out.bel hb).fr 5;have f6:w3.frozen? ⟨w.heap.size+1,6,none⟩=false:=(HT2.out.bel hb).fr 6;have f8:w3.frozen? ⟨w.heap.size,4,none⟩=false:=(HX2.out.bel hb).fr 4;have HT3:=hid (HT2.out.bel hb);have HG3:=hid hg3;have HB3:=hid (HB2.out.trans (hb.mono HB2.out.size));clear hg3 hb x4)
 have hs:=HS2.out
 have hs3:=HB3.out.size
 have HT3:=HT3.out
 obtain ⟨w4,hw4⟩:∃ W,w3.setCell ⟨w.heap.size,4,none⟩ (.slice p3 x.args.length q3)=W:=⟨_,rfl⟩
 have HT4:BxL 41 (w.heap.size+1) [.int .u8 0,.int .u8 0,.string ⟨#[]⟩,.string ⟨#[]⟩,.slice none 0 0,.int .i64 0,.int .i64 0] w4:=by rw [← hw4];exact HT3.keep (heap_ot (by omega) _)
 obtain ⟨w5,hw5⟩:∃ W,((((((w4.setCell ⟨w.heap.size+1,0,none⟩ (.int .u8 (x.kind:Int))).setCell ⟨w.heap.size+1,1,none⟩ (.int .u8 (x.op:Int))).setCell ⟨w.heap.size+1,2,none⟩ (.string ⟨x.dst.toArray⟩)).setCell ⟨w.heap.size+1,3,none⟩ (.string ⟨x.nm.toArray⟩)).setCell ⟨w.heap.size+1,4,none⟩ (.slice p3 x.args.length q3)).setCell ⟨w.heap.size+1,5,none⟩ (.int .i64 x.pos.1)).setCell ⟨w.heap.size+1,6,none⟩ (.int .i64 x.pos.2)=W:=⟨_,rfl⟩
 rw [hw4,hw5]
 have HT5:BxL 41 (w.heap.size+1) [.int .u8 (x.kind:Int),.int .u8 (x.op:Int),.string ⟨x.dst.toArray⟩,.string ⟨x.nm.toArray⟩,.slice p3 x.args.length q3,.int .i64 x.pos.1,.int .i64 x.pos.2] w5:=by rw [← hw5];exact ((((((HT4.set 0 _).set 1 _).set 2 _).set 3 _).set 4 _).set 5 _).set 6 _
 have HO5:∀ k,k ≠ w.heap.size→k ≠ w.heap.size+1→w5.heap[k]?=w3.heap[k]?:=fun k h1 h2=>by rw [← hw5,← hw4,heap_ot h2,heap_ot h2,heap_ot h2,heap_ot h2,heap_ot h2,heap_ot h2,heap_ot h2,heap_ot h1]
 have HZ5:w5.heap.size=w3.heap.size:=by rw [← hw5,← hw4];simp only [World.size_setCell]
 have HQ5:w5.os=w3.os∧w5.tape=w3.tape∧w5.output=w3.output:=by rw [← hw5,← hw4];simp only [World.setCell,and_self]
 obtain ⟨e0,e1,e2,e3,e4,e5,e6⟩:=HT5.p7
 clear hw4 hw5 HT4 HT5
 refine bodyPost_ret (v := .agg #[.int .u8 (x.kind:Int),.int .u8 (x.op:Int),.string ⟨x.dst.toArray⟩,.string ⟨x.nm.toArray⟩,.slice p3 x.args.length q3,.int .i64 x.pos.1,.int .i64 x.pos.2]) (by simp [results,Tryz.results18,go_sem,e0,e1,e2,e3,e4,e5,e6]) rfl ?_
 refine ⟨_,rfl,?_,?_⟩
 ·refine ag_keepOwn (ag_base HG3.out (by omega)) (by rw [HZ5];exact Nat.le_refl _) fun j hj=>?_
  have hj2:=(HG3.out.lt j hj).1
  exact HO5 j (by omega) (by omega)
 ·refine HB3.out.trans (But.below (F:=fun k=>k=w.heap.size∨k=w.heap.size+1) ⟨HQ5.1,HQ5.2.1,HQ5.2.2,by rw [HZ5];exact Nat.le_refl _,fun k hk hF=>?_⟩ HB3.out.size fun k hk=>by omega)
  exact HO5 k (fun e=>hF (.inl e)) (fun e=>hF (.inr e))
theorem below_drewN (w:World) (n:Nat):Below w.heap.size w (w.drewN n):=⟨rfl,rfl,rfl,Nat.le_refl _,fun _ _=>rfl⟩
set_option maxRecDepth 100000 in
set_option maxHeartbeats 4000000 in
theorem eqargs_same (l:List Ag) (va vb:Value) (R R':Nat→Prop) (w:World) (ha:SlG kAg R w va l) (hb:SlG kAg R' w vb l) :
  Calls Tryz.prog 99 #[va,vb] w fun e w'=>e = .returned (.bool true)∧∃ n,w.drewN n=w':=by
 obtain ⟨pa,ca,rfl⟩:=ha.slc
 obtain ⟨pb,cb,rfl⟩:=hb.slc
 have HA:=hid ha;have HB:=hid hb
 clear ha hb
 go_enter Tryz.func99,Tryz.ntmps99
 go_wp2
 go_loopw [4,5] (fun rv iv wr=>∃ (k n:Nat),k≤l.length∧rv = .bool false∧iv = .int .i64 k∧wr=w.drewN n) (fun _ iv _=>l.length - (intOf iv).toNat)
 case atStart=>exact ⟨0,0,Nat.zero_le _,rfl,rfl,rfl⟩
 case round =>
  obtain ⟨k,n,hk,rfl,rfl,rfl⟩:=hrel
  by_cases hlt:k<l.length
  ·obtain ⟨b1,o1,rfl,hR1,hc1⟩:=ag_at HA.out (by omega:0<l.length)
   obtain ⟨b2,o2,rfl,hR2,hc2⟩:=ag_at HB.out (by omega:0<l.length)
   obtain ⟨c0,c1⟩:=hc1 k hlt
   obtain ⟨d0,d1⟩:=hc2 k hlt
   have HLT:=hid hlt
   clear hc1 hc2
   generalize l[k]=x at *
   clear hlt
   have hlt:=HLT.out
   go_wp2_with fail
   go_quiet (fail)
   go_wp2
   go_roundw
   case rel=>exact ⟨k+1,n+nq,HLT.out,by first | rfl | trivial,by rw [wrap_next HLT.out HA.out.len],by first | rfl | rw [World.drewN_drewN]⟩
   case measure=>exact meas_next HLT.out HA.out.len
  ·obtain rfl:k=l.length:=by omega
   clear hlt
   go_wp2
   go_ret
   exact ⟨rfl,n,rfl⟩
set_option maxRecDepth 100000 in
set_option maxHeartbeats 4000000 in
theorem eqinstr_same (x:In) (va vb:Value) (w:World) (ha:SlG kAg (·<w.heap.size) w va x.args) (hb:SlG kAg (·<w.heap.size) w vb x.args) :
  Calls Tryz.prog 64 #[.agg #[.int .u8 (x.kind:Int),.int .u8 (x.op:Int),.string ⟨x.dst.toArray⟩,.string ⟨x.nm.toArray⟩,va,.int .i64 x.pos.1,.int .i64 x.pos.2],.agg #[.int .u8 (x.kind:Int),.int .u8 (x.op:Int),.string ⟨x.dst.toArray⟩,.string ⟨x.nm.toArray⟩,vb,.int .i64 x.pos.1,.int .i64 x.pos.2]] w fun e w'=>e = .returned (.bool true)∧Below w.heap.size w w':=by
 obtain ⟨pa,ca,rfl⟩:=ha.slc
 obtain ⟨pb,cb,rfl⟩:=hb.slc
 have HA:=hid ha;have HB:=hid hb
 clear ha hb
 go_enter Tryz.func64,Tryz.ntmps64
 go_upto_region 1 with fail
 obtain ⟨w2,hw2⟩:∃ W,(w.alloc (.cells #[.int .u8 (x.kind:Int),.int .u8 (x.op:Int),.string ⟨x.dst.toArray⟩,.string ⟨x.nm.toArray⟩,.slice pa x.args.length ca,.int .i64 x.pos.1,.int .i64 x.pos.2] 41)).alloc (.cells #[.int .u8 (x.kind:Int),.int .u8 (x.op:Int),.string ⟨x.dst.toArray⟩,.string ⟨x.nm.toArray⟩,.slice pb x.args.length cb,.int .i64 x.pos.1,.int .i64 x.pos.2] 41)=W:=⟨_,rfl⟩
 have HB2:=hid (show Below w.heap.size w w2 from by rw [← hw2];exact ((Below.refl _ _).alloc (Nat.le_refl _) _).alloc (by rw [World.size_alloc];omega) _)
 have HX:=hid (show BxL 41 w.heap.size [.int .u8 (x.kind:Int),.int .u8 (x.op:Int),.string ⟨x.dst.toArray⟩,.string ⟨x.nm.toArray⟩,.slice pa x.args.length ca,.int .i64 x.pos.1,.int .i64 x.pos.2] w2 from by rw [← hw2];exact (BxL.new _ _ _).al _)
 have HY:=hid (show BxL 41 (w.heap.size+1) [.int .u8 (x.kind:Int),.int .u8 (x.op:Int),.string ⟨x.dst.toArray⟩,.string ⟨x.nm.toArray⟩,.slice pb x.args.length cb,.int .i64 x.pos.1,.int .i64 x.pos.2] w2 from by rw [← hw2];have:=BxL.new 41 (w.alloc (.cells #[.int .u8 (x.kind:Int),.int .u8 (x.op:Int),.string ⟨x.dst.toArray⟩,.string ⟨x.nm.toArray⟩,.slice pa x.args.length ca,.int .i64 x.pos.1,.int .i64 x.pos.2] 41)) [.int .u8 (x.kind:Int),.int .u8 (x.op:Int),.string ⟨x.dst.toArray⟩,.string ⟨x.nm.toArray⟩,.slice pb x.args.length cb,.int .i64 x.pos.1,.int .i64 x.pos.2];rw [World.size_alloc] at this;exact this)
 rw [hw2]
 clear hw2
 have c0:∀ m,(w2.drewN m).cell? ⟨w.heap.size,0,none⟩=some (.int .u8 (x.kind:Int)):=fun m=>HX.out.at 0 rfl
 have c1:∀ m,(w2.drewN m).cell? ⟨w.heap.size,1,none⟩=some (.int .u8 (x.op:Int)):=fun m=>HX.out.at 1 rfl
 have c2:∀ m,(w2.drewN m).cell? ⟨w.heap.size,2,none⟩=some (.string ⟨x.dst.toArray⟩):=fun m=>HX.out.at 2 rfl
 have c3:∀ m,(w2.drewN m).cell? ⟨w.heap.size,3,none⟩=some (.string ⟨x.nm.toArray⟩):=fun m=>HX.out.at 3 rfl
 have c4:∀ m,(w2.drewN m).cell? ⟨w.heap.size,4,none⟩=some (.slice pa x.args.length ca):=fun m=>HX.out.at 4 rfl
 have c5:∀ m,(w2.drewN m).cell? ⟨w.heap.size,5,none⟩=some (.int .i64 x.pos.1):=fun m=>HX.out.at 5 rfl
 have c6:∀ m,(w2.drewN m).cell? ⟨w.heap.size,6,none⟩=some (.int .i64 x.pos.2):=fun m=>HX.out.at 6 rfl
 have d0:∀ m,(w2.drewN m).cell? ⟨w.heap.size+1,0,none⟩=some (.int .u8 (x.kind:Int)):=fun m=>HY.out.at 0 rfl
 have d1:∀ m,(w2.drewN m).cell? ⟨w.heap.size+1,1,none⟩=some (.int .u8 (x.op:Int)):=fun m=>HY.out.at 1 rfl
 have d2:∀ m,(w2.drewN m).cell? ⟨w.heap.size+1,2,none⟩=some (.string ⟨x.dst.toArray⟩):=fun m=>HY.out.at 2 rfl
 have d3:∀ m,(w2.drewN m).cell? ⟨w.heap.size+1,3,none⟩=some (.string ⟨x.nm.toArray⟩):=fun m=>HY.out.at 3 rfl
 have d4:∀ m,(w2.drewN m).cell? ⟨w.heap.size+1,4,none⟩=some (.slice pb x.args.length cb):=fun m=>HY.out.at 4 rfl
 have d5:∀ m,(w2.drewN m).cell? ⟨w.heap.size+1,5,none⟩=some (.int .i64 x.pos.1):=fun m=>HY.out.at 5 rfl
 have d6:∀ m,(w2.drewN m).cell? ⟨w.heap.size+1,6,none⟩=some (.int .i64 x.pos.2):=fun m=>HY.out.at 6 rfl
 have p0:=c0 0
 have q0:=d0 0
 rw [show w2.drewN 0=w2 from rfl] at p0 q0
 have p1:=c1 0
 have q1:=d1 0
 rw [show w2.drewN 0=w2 from rfl] at p1 q1
 have p2:=c2 0
 have q2:=d2 0
 rw [show w2.drewN 0=w2 from rfl] at p2 q2
 have p3:=c3 0
 have q3:=d3 0
 rw [show w2.drewN 0=w2 from rfl] at p3 q3
 have p4:=c4 0
 have q4:=d4 0
 rw [show w2.drewN 0=w2 from rfl] at p4 q4
 have p5:=c5 0
 have q5:=d5 0
 rw [show w2.drewN 0=w2 from rfl] at p5 q5
 have p6:=c6 0
 have q6:=d6 0
 rw [show w2.drewN 0=w2 from rfl] at p6 q6
 go_wp2_with (go_at_call 99;(refine (eqargs_same x.args _ _ _ _ _ (HA.out.below HB2.out) (HB.out.below HB2.out)).mono ?_);rintro e w3 ⟨rfl,n3,rfl⟩)
 go_ret
 exact ⟨rfl,HB2.out.trans ((below_drewN w2 n3).mono HB2.out.size)⟩
end Go.Proofs.YtoofbgoeipijcaaGreatDoor
