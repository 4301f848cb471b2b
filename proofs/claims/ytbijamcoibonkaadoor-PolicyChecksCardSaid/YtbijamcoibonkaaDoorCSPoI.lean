/-
 Lists of a policy: copied, and held against each other.
-/
import Derived.Test.YtbijamcoibonkaaDoorCSPoC
import Derived.Test.YtbijamcoibonkaaDoorCB13
import Derived.Test.YtbijamcoibonkaaDoorCB15
import Derived.Deep.DeepCutAuto
import Derived.Deep.QuietTactic
namespace Go.Proofs.YtbijamcoibonkaaDoor
set_option linter.unusedSimpArgs false
set_option linter.unusedVariables false
open Go.RowKit Go.Shelf
attribute [local go_sem] Oper.semAt_some
theorem info_strI:(Tryd.prog.info? 9).map (fun i=>(i.zero,i.size,i.bytes))=some (some (.string ⟨#[]⟩),1,16):=by kernel_rfl
theorem info_prI:(Tryd.prog.info? 58).map (fun i=>(i.zero,i.size,i.bytes))=some (some (.agg #[.int .i64 0,.int .i64 0]),2,16):=by kernel_rfl
theorem info_bdI:(Tryd.prog.info? 31).map (fun i=>(i.zero,i.size,i.bytes))=some (some (.agg #[.string ⟨#[]⟩,.int .i64 0]),2,24):=by kernel_rfl
theorem part_pr0 (x y:Int) (w:World):(part 3 #[.int .i64 x,.int .i64 y] 0).run Tryd.prog w = .ok (.int .i64 x) w:=by
 kernel_rfl
theorem part_pr1 (x y:Int) (w:World):(part 3 #[.int .i64 x,.int .i64 y] 1).run Tryd.prog w = .ok (.int .i64 y) w:=by
 kernel_rfl
theorem size_pr (w:World):(sizeOf 3).run Tryd.prog w = .ok 1 w:=by kernel_rfl
theorem run_eq_pair (w:World) (d:Nat) (a b c e:Int):(Op.equalIn (d+1+1) 58 (.agg #[.int .i64 a,.int .i64 b]) (.agg #[.int .i64 c,.int .i64 e])).run Tryd.prog w = .ok (a == c && b == e) w:=by
 have h1:Tryd.prog.underlying 3=some (.int .i64):=Tryd.underlying3
 have h2:Tryd.prog.underlying 58=some (.array 2 3):=Tryd.underlying58
 have e1:=run_equalIn_int (P:=Tryd.prog) w d 3 .i64 .i64 a c h1
 have e2:=run_equalIn_int (P:=Tryd.prog) w d 3 .i64 .i64 b e h1
 have hr:List.range' 0 2=[0,1]:=rfl
 rw [Op.equalIn]
 cases h:(a == c) <;> cases h':(b == e) <;> rw [h] at e1 <;> rw [h'] at e2 <;> simp [run_underlying h2,size_pr,hr,part_pr0,part_pr1,e1,e2,Sem.run_pure]
attribute [local go_sem] run_eq_pair
set_option maxRecDepth 100000 in
set_option maxHeartbeats 4000000 in
theorem cp_strs (l:List Bs) (v:Value) (w:World) (h:SlG kStr (·<w.heap.size) w v l) (hl:l.length≤1000000000000) :
  Calls Tryd.prog 22 #[v] w fun e w'=>∃ v',e = .returned v'∧GA kStr w.heap.size 9 w' v' l∧Below w.heap.size w w':=by
 obtain ⟨p,c,rfl⟩:=h.slc
 have HS:=hid h;have HL:=hid hl
 clear h hl
 go_enter Tryd.func22,Tryd.ntmps22
 go_wp2
 go_loopw [3,4] (fun ov iv wr=>∃ k:Nat,k≤l.length∧iv = .int .i64 (k:Int)∧GA kStr w.heap.size 9 wr ov (l.take k)∧Below w.heap.size w wr) (fun _ iv _=>l.length - (intOf iv).toNat)
 case atStart=>exact ⟨0,Nat.zero_le _,rfl,GA.nil _ _ _ _,Below.refl _ _⟩
 case round =>
  obtain ⟨k,hk,rfl,hga,hbr⟩:=hrel
  obtain ⟨T,hT⟩:∃ T,l.take k=T:=⟨_,rfl⟩
  rw [hT] at hga
  have HTD:=hid hT
  clear hT
  obtain ⟨po,co,rfl⟩:=hga.slc
  by_cases hlt:k<l.length
  ·obtain ⟨b,off,rfl,hR,hcells⟩:=str_at HS.out (by omega:0<l.length)
   have d0:=(hbr.cell (p:=⟨b,off+k,none⟩) hR).trans (hcells k hlt)
   have HSN:=hid (show l.take (k+1)=T++[l[k]] from by rw [List.take_succ_eq_append_getElem hlt,HTD.out])
   have HCL:=hid (show T.length+1≤1000000000000 from by rw [← HTD.out,List.length_take];have:=HL.out;omega)
   have HLT:=hid hlt;have HBO:=hid hbr;have HGO:=hid hga
   clear hcells hR hbr hga HTD
   generalize l[k]=x at *
   clear hlt
   go_wp2_with (at_builtin;refine wpList_push (K:=kStr) (x:=x) (cs:=[.string ⟨x.toArray⟩]) (te:=9) rfl _ _ 22 rfl Tryd.underlying22 _ 16 info_strI rfl HGO.out rfl rfl rfl (by have:=HCL.out;omega) (by have:=HCL.out;unfold maxLen;omega) HBO.out.size ?_;intro v5 w5 hg5 hgr5 hm5;have HG5:=hid hg5;have HB5:=hid (below_push HGO.out HBO.out hgr5 HBO.out.size);clear hg5 hgr5 hm5)
   go_roundw
   case rel=>exact ⟨k+1,HLT.out,by rw [wrap_next HLT.out HS.out.len],by rw [HSN.out];exact HG5.out,HB5.out⟩
   case measure=>exact meas_next HLT.out HS.out.len
  ·obtain rfl:k=l.length:=by omega
   have HBR:=hid hbr;have HGA:=hid hga
   clear hlt hbr hga
   go_wp2_with fail
   go_ret
   have hga:=HGA.out
   have hT:=HTD.out
   rw [List.take_length] at hT
   subst hT
   exact ⟨_,rfl,hga,HBR.out⟩
set_option maxRecDepth 100000 in
set_option maxHeartbeats 4000000 in
theorem cp_pairs (l:List (Int × Int)) (v:Value) (w:World) (h:SlG kPair (·<w.heap.size) w v l) (hl:l.length≤1000000000000) :
  Calls Tryd.prog 23 #[v] w fun e w'=>∃ v',e = .returned v'∧GA kPair w.heap.size 58 w' v' l∧Below w.heap.size w w':=by
 obtain ⟨p,c,rfl⟩:=h.slc
 have HS:=hid h;have HL:=hid hl
 clear h hl
 go_enter Tryd.func23,Tryd.ntmps23
 go_wp2
 go_loopw [3,4] (fun ov iv wr=>∃ k:Nat,k≤l.length∧iv = .int .i64 (k:Int)∧GA kPair w.heap.size 58 wr ov (l.take k)∧Below w.heap.size w wr) (fun _ iv _=>l.length - (intOf iv).toNat)
 case atStart=>exact ⟨0,Nat.zero_le _,rfl,GA.nil _ _ _ _,Below.refl _ _⟩
 case round =>
  obtain ⟨k,hk,rfl,hga,hbr⟩:=hrel
  obtain ⟨T,hT⟩:∃ T,l.take k=T:=⟨_,rfl⟩
  rw [hT] at hga
  have HTD:=hid hT
  clear hT
  obtain ⟨po,co,rfl⟩:=hga.slc
  by_cases hlt:k<l.length
  ·obtain ⟨b,off,rfl,hR,hcells⟩:=pair_at HS.out (by omega:0<l.length)
   obtain ⟨c0,c1⟩:=hcells k hlt
   have d0:=(hbr.cell (p:=⟨b,off+k*2,none⟩) hR).trans c0
   have d1:=(hbr.cell (p:=⟨b,off+k*2+1,none⟩) hR).trans c1
   clear c0 c1
   have HSN:=hid (show l.take (k+1)=T++[l[k]] from by rw [List.take_succ_eq_append_getElem hlt,HTD.out])
   have HCL:=hid (show T.length+1≤1000000000000 from by rw [← HTD.out,List.length_take];have:=HL.out;omega)
   have HLT:=hid hlt;have HBO:=hid hbr;have HGO:=hid hga
   clear hcells hR hbr hga HTD
   generalize l[k]=x at *
   clear hlt
   go_wp2_with (at_builtin;refine wpList_push (K:=kPair) (x:=x) (cs:=[.int .i64 x.1,.int .i64 x.2]) (te:=58) rfl _ _ 23 rfl Tryd.underlying23 _ 16 info_prI rfl HGO.out rfl rfl rfl (by have:=HCL.out;omega) (by have:=HCL.out;unfold maxLen;omega) HBO.out.size ?_;intro v5 w5 hg5 hgr5 hm5;have HG5:=hid hg5;have HB5:=hid (below_push HGO.out HBO.out hgr5 HBO.out.size);clear hg5 hgr5 hm5)
   go_roundw
   case rel=>exact ⟨k+1,HLT.out,by rw [wrap_next HLT.out HS.out.len],by rw [HSN.out];exact HG5.out,HB5.out⟩
   case measure=>exact meas_next HLT.out HS.out.len
  ·obtain rfl:k=l.length:=by omega
   have HBR:=hid hbr;have HGA:=hid hga
   clear hlt hbr hga
   go_wp2_with fail
   go_ret
   have hga:=HGA.out
   have hT:=HTD.out
   rw [List.take_length] at hT
   subst hT
   exact ⟨_,rfl,hga,HBR.out⟩
set_option maxRecDepth 100000 in
set_option maxHeartbeats 4000000 in
theorem cp_binds (l:List (Bs × Int)) (v:Value) (w:World) (h:SlG kBind (·<w.heap.size) w v l) (hl:l.length≤1000000000000) :
  Calls Tryd.prog 24 #[v] w fun e w'=>∃ v',e = .returned v'∧GA kBind w.heap.size 31 w' v' l∧Below w.heap.size w w':=by
 obtain ⟨p,c,rfl⟩:=h.slc
 have HS:=hid h;have HL:=hid hl
 clear h hl
 go_enter Tryd.func24,Tryd.ntmps24
 go_wp2
 go_loopw [3,4] (fun ov iv wr=>∃ k:Nat,k≤l.length∧iv = .int .i64 (k:Int)∧GA kBind w.heap.size 31 wr ov (l.take k)∧Below w.heap.size w wr) (fun _ iv _=>l.length - (intOf iv).toNat)
 case atStart=>exact ⟨0,Nat.zero_le _,rfl,GA.nil _ _ _ _,Below.refl _ _⟩
 case round =>
  obtain ⟨k,hk,rfl,hga,hbr⟩:=hrel
  obtain ⟨T,hT⟩:∃ T,l.take k=T:=⟨_,rfl⟩
  rw [hT] at hga
  have HTD:=hid hT
  clear hT
  obtain ⟨po,co,rfl⟩:=hga.slc
  by_cases hlt:k<l.length
  ·obtain ⟨b,off,rfl,hR,hcells⟩:=bind_at HS.out (by omega:0<l.length)
   obtain ⟨c0,c1⟩:=hcells k hlt
   have d0:=(hbr.cell (p:=⟨b,off+k*2,none⟩) hR).trans c0
   have d1:=(hbr.cell (p:=⟨b,off+k*2+1,none⟩) hR).trans c1
   clear c0 c1
   have HSN:=hid (show l.take (k+1)=T++[l[k]] from by rw [List.take_succ_eq_append_getElem hlt,HTD.out])
   have HCL:=hid (show T.length+1≤1000000000000 from by rw [← HTD.out,List.length_take];have:=HL.out;omega)
   have HLT:=hid hlt;have HBO:=hid hbr;have HGO:=hid hga
   clear hcells hR hbr hga HTD
   generalize l[k]=x at *
   clear hlt
   go_wp2_with (at_builtin;refine wpList_push (K:=kBind) (x:=x) (cs:=[.string ⟨x.1.toArray⟩,.int .i64 x.2]) (te:=31) rfl _ _ 24 rfl Tryd.underlying24 _ 24 info_bdI rfl HGO.out rfl rfl rfl (by have:=HCL.out;omega) (by have:=HCL.out;unfold maxLen;omega) HBO.out.size ?_;intro v5 w5 hg5 hgr5 hm5;have HG5:=hid hg5;have HB5:=hid (below_push HGO.out HBO.out hgr5 HBO.out.size);clear hg5 hgr5 hm5)
   go_roundw
   case rel=>exact ⟨k+1,HLT.out,by rw [wrap_next HLT.out HS.out.len],by rw [HSN.out];exact HG5.out,HB5.out⟩
   case measure=>exact meas_next HLT.out HS.out.len
  ·obtain rfl:k=l.length:=by omega
   have HBR:=hid hbr;have HGA:=hid hga
   clear hlt hbr hga
   go_wp2_with fail
   go_ret
   have hga:=HGA.out
   have hT:=HTD.out
   rw [List.take_length] at hT
   subst hT
   exact ⟨_,rfl,hga,HBR.out⟩
set_option maxRecDepth 100000 in
set_option maxHeartbeats 4000000 in
theorem se_strs (a b:List Bs) (va vb:Value) (R R':Nat→Prop) (w:World) (ha:SlG kStr R w va a) (hb:SlG kStr R' w vb b) :
  Calls Tryd.prog 41 #[va,vb] w fun e w'=>e = .returned (.bool (decide (a=b)))∧∃ n,w.drewN n=w':=by
 obtain ⟨pa,ca,rfl⟩:=ha.slc
 obtain ⟨pb,cb,rfl⟩:=hb.slc
 have HA:=hid ha;have HB:=hid hb
 clear ha hb
 obtain ⟨r,hr⟩:∃ r,decide (a=b)=r:=⟨_,rfl⟩
 rw [hr]
 have HR:=hid hr
 clear hr
 by_cases hl:a.length=b.length
 ·have hne:((a.length:Int) == (b.length:Int))=true:=by simp;omega
  go_enter Tryd.func41,Tryd.ntmps41
  go_wp2
  go_loopw [4,13] (fun rv iv wr=>∃ (k n:Nat),k≤a.length∧rv = .bool false∧iv = .int .i64 k∧a.take k=b.take k∧w.drewN n=wr) (fun _ iv _=>a.length - (intOf iv).toNat)
  case atStart=>exact ⟨0,0,Nat.zero_le _,rfl,rfl,rfl,rfl⟩
  case round =>
   obtain ⟨k,n,hk,rfl,rfl,htk,rfl⟩:=hrel
   by_cases hlt:k<a.length
   ·have hlb:k<b.length:=by omega
    obtain ⟨b1,o1,rfl,hR1,hc1⟩:=str_at HA.out (by omega:0<a.length)
    obtain ⟨b2,o2,rfl,hR2,hc2⟩:=str_at HB.out (by omega:0<b.length)
    have c0:=hc1 k hlt
    have d0:=hc2 k hlb
    have HT:=hid (fun he=>take_nextL htk hlt hlb he)
    have HN:=hid (fun he=>ne_atL hlt hlb he)
    have HLT:=hid hlt
    clear hc1 hc2 htk hR1 hR2
    generalize a[k]=x at *
    generalize b[k]=y at *
    by_cases hxy:x=y
    ·have HT':=hid (HT.out hxy)
     clear HT HN
     subst hxy
     go_wp2_with fail
     go_quiet (fail)
     go_wp2
     go_roundw
     case rel=>exact ⟨k+1,n+nq,HLT.out,by first | rfl | trivial,by rw [wrap_next HLT.out HA.out.len],HT'.out,by first | rfl | rw [World.drewN_drewN]⟩
     case measure=>exact meas_next HLT.out HA.out.len
    ·have HB2:=hid (show r=false from by rw [← HR.out];exact decide_eq_false (HN.out hxy))
     clear HT HN
     have hwd:=str_neF hxy
     have hwd2:(x != y)=true:=by rw [bne,hwd];rfl
     clear hxy
     go_wp2_with fail
     go_quiet (fail)
     go_wp2
     go_ret
     exact ⟨by rw [HB2.out];rfl,n+nq,by first | rfl | rw [World.drewN_drewN]⟩
   ·obtain rfl:k=a.length:=by omega
    have HB2:=hid (show r=true from by rw [← HR.out];exact decide_eq_true (eq_fullL htk (by omega)))
    clear htk hlt
    go_wp2
    go_ret
    exact ⟨by rw [HB2.out];rfl,n,rfl⟩
 ·have hne:((a.length:Int) == (b.length:Int))=false:=by simp;omega
  have HB2:=hid (show r=false from by rw [← HR.out];exact decide_eq_false (fun e=>hl (by rw [e])))
  clear hl
  go_enter Tryd.func41,Tryd.ntmps41
  go_wp2
  go_ret
  exact ⟨by rw [HB2.out];rfl,0,rfl⟩
set_option maxRecDepth 100000 in
set_option maxHeartbeats 4000000 in
theorem ke_strs (a b:List Bs) (va vb:Value) (R R':Nat→Prop) (w:World) (ha:SlG kStr R w va a) (hb:SlG kStr R' w vb b) :
  Calls Tryd.prog 44 #[va,vb] w fun e w'=>e = .returned (.bool (decide (a=b)))∧∃ n,w.drewN n=w':=by
 obtain ⟨pa,ca,rfl⟩:=ha.slc
 obtain ⟨pb,cb,rfl⟩:=hb.slc
 have HA:=hid ha;have HB:=hid hb
 clear ha hb
 obtain ⟨r,hr⟩:∃ r,decide (a=b)=r:=⟨_,rfl⟩
 rw [hr]
 have HR:=hid hr
 clear hr
 by_cases hl:a.length=b.length
 ·have hne:((a.length:Int) != (b.length:Int))=false:=by simp;omega
  go_enter Tryd.func44,Tryd.ntmps44
  go_wp2
  go_loopw [4,5] (fun rv iv wr=>∃ (k n:Nat),k≤a.length∧rv = .bool false∧iv = .int .i64 k∧a.take k=b.take k∧w.drewN n=wr) (fun _ iv _=>a.length - (intOf iv).toNat)
  case atStart=>exact ⟨0,0,Nat.zero_le _,rfl,rfl,rfl,rfl⟩
  case round =>
   obtain ⟨k,n,hk,rfl,rfl,htk,rfl⟩:=hrel
   by_cases hlt:k<a.length
   ·have hlb:k<b.length:=by omega
    obtain ⟨b1,o1,rfl,hR1,hc1⟩:=str_at HA.out (by omega:0<a.length)
    obtain ⟨b2,o2,rfl,hR2,hc2⟩:=str_at HB.out (by omega:0<b.length)
    have c0:=hc1 k hlt
    have d0:=hc2 k hlb
    have HT:=hid (fun he=>take_nextL htk hlt hlb he)
    have HN:=hid (fun he=>ne_atL hlt hlb he)
    have HLT:=hid hlt
    clear hc1 hc2 htk hR1 hR2
    generalize a[k]=x at *
    generalize b[k]=y at *
    by_cases hxy:x=y
    ·have HT':=hid (HT.out hxy)
     clear HT HN
     subst hxy
     go_wp2_with fail
     go_quiet (fail)
     go_wp2
     go_roundw
     case rel=>exact ⟨k+1,n+nq,HLT.out,by first | rfl | trivial,by rw [wrap_next HLT.out HA.out.len],HT'.out,by first | rfl | rw [World.drewN_drewN]⟩
     case measure=>exact meas_next HLT.out HA.out.len
    ·have HB2:=hid (show r=false from by rw [← HR.out];exact decide_eq_false (HN.out hxy))
     clear HT HN
     have hwd:=str_neF hxy
     have hwd2:(x != y)=true:=by rw [bne,hwd];rfl
     clear hxy
     go_wp2_with fail
     go_quiet (fail)
     go_wp2
     go_ret
     exact ⟨by rw [HB2.out];rfl,n+nq,by first | rfl | rw [World.drewN_drewN]⟩
   ·obtain rfl:k=a.length:=by omega
    have HB2:=hid (show r=true from by rw [← HR.out];exact decide_eq_true (eq_fullL htk (by omega)))
    clear htk hlt
    go_wp2
    go_ret
    exact ⟨by rw [HB2.out];rfl,n,rfl⟩
 ·have hne:((a.length:Int) != (b.length:Int))=true:=by simp;omega
  have HB2:=hid (show r=false from by rw [← HR.out];exact decide_eq_false (fun e=>hl (by rw [e])))
  clear hl
  go_enter Tryd.func44,Tryd.ntmps44
  go_wp2
  go_ret
  exact ⟨by rw [HB2.out];rfl,0,rfl⟩
set_option maxRecDepth 100000 in
set_option maxHeartbeats 4000000 in
theorem se_pairs (a b:List (Int × Int)) (va vb:Value) (R R':Nat→Prop) (w:World) (ha:SlG kPair R w va a) (hb:SlG kPair R' w vb b) :
  Calls Tryd.prog 42 #[va,vb] w fun e w'=>e = .returned (.bool (decide (a=b)))∧∃ n,w.drewN n=w':=by
 obtain ⟨pa,ca,rfl⟩:=ha.slc
 obtain ⟨pb,cb,rfl⟩:=hb.slc
 have HA:=hid ha;have HB:=hid hb
 clear ha hb
 obtain ⟨r,hr⟩:∃ r,decide (a=b)=r:=⟨_,rfl⟩
 rw [hr]
 have HR:=hid hr
 clear hr
 by_cases hl:a.length=b.length
 ·have hne:((a.length:Int) == (b.length:Int))=true:=by simp;omega
  go_enter Tryd.func42,Tryd.ntmps42
  go_wp2
  go_loopw [4,13] (fun rv iv wr=>∃ (k n:Nat),k≤a.length∧rv = .bool false∧iv = .int .i64 k∧a.take k=b.take k∧w.drewN n=wr) (fun _ iv _=>a.length - (intOf iv).toNat)
  case atStart=>exact ⟨0,0,Nat.zero_le _,rfl,rfl,rfl,rfl⟩
  case round =>
   obtain ⟨k,n,hk,rfl,rfl,htk,rfl⟩:=hrel
   by_cases hlt:k<a.length
   ·have hlb:k<b.length:=by omega
    obtain ⟨b1,o1,rfl,hR1,hc1⟩:=pair_at HA.out (by omega:0<a.length)
    obtain ⟨b2,o2,rfl,hR2,hc2⟩:=pair_at HB.out (by omega:0<b.length)
    obtain ⟨c0,c1⟩:=hc1 k hlt
    obtain ⟨d0,d1⟩:=hc2 k hlb
    have HT:=hid (fun he=>take_nextL htk hlt hlb he)
    have HN:=hid (fun he=>ne_atL hlt hlb he)
    have HLT:=hid hlt
    clear hc1 hc2 htk hR1 hR2
    generalize a[k]=x at *
    generalize b[k]=y at *
    by_cases hxy:x=y
    ·have HT':=hid (HT.out hxy)
     clear HT HN
     subst hxy
     obtain ⟨x0,x1⟩:=x
     simp only at c0 c1 d0 d1
     go_wp2_with fail
     go_quiet (fail)
     go_wp2
     go_roundw
     case rel=>exact ⟨k+1,n+nq,HLT.out,by first | rfl | trivial,by rw [wrap_next HLT.out HA.out.len],HT'.out,by first | rfl | rw [World.drewN_drewN]⟩
     case measure=>exact meas_next HLT.out HA.out.len
    ·have HB2:=hid (show r=false from by rw [← HR.out];exact decide_eq_false (HN.out hxy))
     clear HT HN
     obtain ⟨x0,x1⟩:=x
     obtain ⟨y0,y1⟩:=y
     simp only at c0 c1 d0 d1
     by_cases h0:x0=y0
     ·subst h0
      have h1:x1 ≠ y1:=fun e=>hxy (by rw [e])
      have hwd:(x1 == y1)=false:=by rw [beq_eq_false_iff_ne];exact h1
      clear hxy h1
      go_wp2_with fail
      go_quiet (fail)
      go_wp2
      go_ret
      exact ⟨by rw [HB2.out];rfl,n+nq,by first | rfl | rw [World.drewN_drewN]⟩
     ·have hwd:(x0 == y0)=false:=by rw [beq_eq_false_iff_ne];exact h0
      clear hxy h0
      go_wp2_with fail
      go_quiet (fail)
      go_wp2
      go_ret
      exact ⟨by rw [HB2.out];rfl,n+nq,by first | rfl | rw [World.drewN_drewN]⟩
   ·obtain rfl:k=a.length:=by omega
    have HB2:=hid (show r=true from by rw [← HR.out];exact decide_eq_true (eq_fullL htk (by omega)))
    clear htk hlt
    go_wp2
    go_ret
    exact ⟨by rw [HB2.out];rfl,n,rfl⟩
 ·have hne:((a.length:Int) == (b.length:Int))=false:=by simp;omega
  have HB2:=hid (show r=false from by rw [← HR.out];exact decide_eq_false (fun e=>hl (by rw [e])))
  clear hl
  go_enter Tryd.func42,Tryd.ntmps42
  go_wp2
  go_ret
  exact ⟨by rw [HB2.out];rfl,0,rfl⟩
set_option maxRecDepth 100000 in
set_option maxHeartbeats 4000000 in
theorem ke_pairs (a b:List (Int × Int)) (va vb:Value) (R R':Nat→Prop) (w:World) (ha:SlG kPair R w va a) (hb:SlG kPair R' w vb b) :
  Calls Tryd.prog 45 #[va,vb] w fun e w'=>e = .returned (.bool (decide (a=b)))∧∃ n,w.drewN n=w':=by
 obtain ⟨pa,ca,rfl⟩:=ha.slc
 obtain ⟨pb,cb,rfl⟩:=hb.slc
 have HA:=hid ha;have HB:=hid hb
 clear ha hb
 obtain ⟨r,hr⟩:∃ r,decide (a=b)=r:=⟨_,rfl⟩
 rw [hr]
 have HR:=hid hr
 clear hr
 by_cases hl:a.length=b.length
 ·have hne:((a.length:Int) != (b.length:Int))=false:=by simp;omega
  go_enter Tryd.func45,Tryd.ntmps45
  go_wp2
  go_loopw [4,5] (fun rv iv wr=>∃ (k n:Nat),k≤a.length∧rv = .bool false∧iv = .int .i64 k∧a.take k=b.take k∧w.drewN n=wr) (fun _ iv _=>a.length - (intOf iv).toNat)
  case atStart=>exact ⟨0,0,Nat.zero_le _,rfl,rfl,rfl,rfl⟩
  case round =>
   obtain ⟨k,n,hk,rfl,rfl,htk,rfl⟩:=hrel
   by_cases hlt:k<a.length
   ·have hlb:k<b.length:=by omega
    obtain ⟨b1,o1,rfl,hR1,hc1⟩:=pair_at HA.out (by omega:0<a.length)
    obtain ⟨b2,o2,rfl,hR2,hc2⟩:=pair_at HB.out (by omega:0<b.length)
    obtain ⟨c0,c1⟩:=hc1 k hlt
    obtain ⟨d0,d1⟩:=hc2 k hlb
    have HT:=hid (fun he=>take_nextL htk hlt hlb he)
    have HN:=hid (fun he=>ne_atL hlt hlb he)
    have HLT:=hid hlt
    clear hc1 hc2 htk hR1 hR2
    generalize a[k]=x at *
    generalize b[k]=y at *
    by_cases hxy:x=y
    ·have HT':=hid (HT.out hxy)
     clear HT HN
     subst hxy
     obtain ⟨x0,x1⟩:=x
     simp only at c0 c1 d0 d1
     go_wp2_with fail
     go_quiet (fail)
     go_wp2
     go_roundw
     case rel=>exact ⟨k+1,n+nq,HLT.out,by first | rfl | trivial,by rw [wrap_next HLT.out HA.out.len],HT'.out,by first | rfl | rw [World.drewN_drewN]⟩
     case measure=>exact meas_next HLT.out HA.out.len
    ·have HB2:=hid (show r=false from by rw [← HR.out];exact decide_eq_false (HN.out hxy))
     clear HT HN
     obtain ⟨x0,x1⟩:=x
     obtain ⟨y0,y1⟩:=y
     simp only at c0 c1 d0 d1
     by_cases h0:x0=y0
     ·subst h0
      have h1:x1 ≠ y1:=fun e=>hxy (by rw [e])
      have hwd:(x1 == y1)=false:=by rw [beq_eq_false_iff_ne];exact h1
      clear hxy h1
      go_wp2_with fail
      go_quiet (fail)
      go_wp2
      go_ret
      exact ⟨by rw [HB2.out];rfl,n+nq,by first | rfl | rw [World.drewN_drewN]⟩
     ·have hwd:(x0 == y0)=false:=by rw [beq_eq_false_iff_ne];exact h0
      clear hxy h0
      go_wp2_with fail
      go_quiet (fail)
      go_wp2
      go_ret
      exact ⟨by rw [HB2.out];rfl,n+nq,by first | rfl | rw [World.drewN_drewN]⟩
   ·obtain rfl:k=a.length:=by omega
    have HB2:=hid (show r=true from by rw [← HR.out];exact decide_eq_true (eq_fullL htk (by omega)))
    clear htk hlt
    go_wp2
    go_ret
    exact ⟨by rw [HB2.out];rfl,n,rfl⟩
 ·have hne:((a.length:Int) != (b.length:Int))=true:=by simp;omega
  have HB2:=hid (show r=false from by rw [← HR.out];exact decide_eq_false (fun e=>hl (by rw [e])))
  clear hl
  go_enter Tryd.func45,Tryd.ntmps45
  go_wp2
  go_ret
  exact ⟨by rw [HB2.out];rfl,0,rfl⟩
set_option maxRecDepth 100000 in
set_option maxHeartbeats 4000000 in
theorem se_binds (a b:List (Bs × Int)) (va vb:Value) (R R':Nat→Prop) (w:World) (ha:SlG kBind R w va a) (hb:SlG kBind R' w vb b) :
  Calls Tryd.prog 43 #[va,vb] w fun e w'=>e = .returned (.bool (decide (a=b)))∧∃ n,w.drewN n=w':=by
 obtain ⟨pa,ca,rfl⟩:=ha.slc
 obtain ⟨pb,cb,rfl⟩:=hb.slc
 have HA:=hid ha;have HB:=hid hb
 clear ha hb
 obtain ⟨r,hr⟩:∃ r,decide (a=b)=r:=⟨_,rfl⟩
 rw [hr]
 have HR:=hid hr
 clear hr
 by_cases hl:a.length=b.length
 ·have hne:((a.length:Int) == (b.length:Int))=true:=by simp;omega
  go_enter Tryd.func43,Tryd.ntmps43
  go_wp2
  go_loopw [4,13] (fun rv iv wr=>∃ (k n:Nat),k≤a.length∧rv = .bool false∧iv = .int .i64 k∧a.take k=b.take k∧w.drewN n=wr) (fun _ iv _=>a.length - (intOf iv).toNat)
  case atStart=>exact ⟨0,0,Nat.zero_le _,rfl,rfl,rfl,rfl⟩
  case round =>
   obtain ⟨k,n,hk,rfl,rfl,htk,rfl⟩:=hrel
   by_cases hlt:k<a.length
   ·have hlb:k<b.length:=by omega
    obtain ⟨b1,o1,rfl,hR1,hc1⟩:=bind_at HA.out (by omega:0<a.length)
    obtain ⟨b2,o2,rfl,hR2,hc2⟩:=bind_at HB.out (by omega:0<b.length)
    obtain ⟨c0,c1⟩:=hc1 k hlt
    obtain ⟨d0,d1⟩:=hc2 k hlb
    have HT:=hid (fun he=>take_nextL htk hlt hlb he)
    have HN:=hid (fun he=>ne_atL hlt hlb he)
    have HLT:=hid hlt
    clear hc1 hc2 htk hR1 hR2
    generalize a[k]=x at *
    generalize b[k]=y at *
    by_cases hxy:x=y
    ·have HT':=hid (HT.out hxy)
     clear HT HN
     subst hxy
     obtain ⟨x0,x1⟩:=x
     simp only at c0 c1 d0 d1
     go_wp2_with fail
     go_quiet (fail)
     go_wp2
     go_roundw
     case rel=>exact ⟨k+1,n+nq,HLT.out,by first | rfl | trivial,by rw [wrap_next HLT.out HA.out.len],HT'.out,by first | rfl | rw [World.drewN_drewN]⟩
     case measure=>exact meas_next HLT.out HA.out.len
    ·have HB2:=hid (show r=false from by rw [← HR.out];exact decide_eq_false (HN.out hxy))
     clear HT HN
     obtain ⟨x0,x1⟩:=x
     obtain ⟨y0,y1⟩:=y
     simp only at c0 c1 d0 d1
     by_cases h0:x0=y0
     ·subst h0
      have h1:x1 ≠ y1:=fun e=>hxy (by rw [e])
      have hwd:(x1 == y1)=false:=by rw [beq_eq_false_iff_ne];exact h1
      clear hxy h1
      go_wp2_with fail
      go_quiet (fail)
      go_wp2
      go_ret
      exact ⟨by rw [HB2.out];rfl,n+nq,by first | rfl | rw [World.drewN_drewN]⟩
     ·have hwd:=str_neF h0
      clear hxy h0
      go_wp2_with fail
      go_quiet (fail)
      go_wp2
      go_ret
      exact ⟨by rw [HB2.out];rfl,n+nq,by first | rfl | rw [World.drewN_drewN]⟩
   ·obtain rfl:k=a.length:=by omega
    have HB2:=hid (show r=true from by rw [← HR.out];exact decide_eq_true (eq_fullL htk (by omega)))
    clear htk hlt
    go_wp2
    go_ret
    exact ⟨by rw [HB2.out];rfl,n,rfl⟩
 ·have hne:((a.length:Int) == (b.length:Int))=false:=by simp;omega
  have HB2:=hid (show r=false from by rw [← HR.out];exact decide_eq_false (fun e=>hl (by rw [e])))
  clear hl
  go_enter Tryd.func43,Tryd.ntmps43
  go_wp2
  go_ret
  exact ⟨by rw [HB2.out];rfl,0,rfl⟩
set_option maxRecDepth 100000 in
set_option maxHeartbeats 4000000 in
theorem ke_binds (a b:List (Bs × Int)) (va vb:Value) (R R':Nat→Prop) (w:World) (ha:SlG kBind R w va a) (hb:SlG kBind R' w vb b) :
  Calls Tryd.prog 46 #[va,vb] w fun e w'=>e = .returned (.bool (decide (a=b)))∧∃ n,w.drewN n=w':=by
 obtain ⟨pa,ca,rfl⟩:=ha.slc
 obtain ⟨pb,cb,rfl⟩:=hb.slc
 have HA:=hid ha;have HB:=hid hb
 clear ha hb
 obtain ⟨r,hr⟩:∃ r,decide (a=b)=r:=⟨_,rfl⟩
 rw [hr]
 have HR:=hid hr
 clear hr
 by_cases hl:a.length=b.length
 ·have hne:((a.length:Int) != (b.length:Int))=false:=by simp;omega
  go_enter Tryd.func46,Tryd.ntmps46
  go_wp2
  go_loopw [4,5] (fun rv iv wr=>∃ (k n:Nat),k≤a.length∧rv = .bool false∧iv = .int .i64 k∧a.take k=b.take k∧w.drewN n=wr) (fun _ iv _=>a.length - (intOf iv).toNat)
  case atStart=>exact ⟨0,0,Nat.zero_le _,rfl,rfl,rfl,rfl⟩
  case round =>
   obtain ⟨k,n,hk,rfl,rfl,htk,rfl⟩:=hrel
   by_cases hlt:k<a.length
   ·have hlb:k<b.length:=by omega
    obtain ⟨b1,o1,rfl,hR1,hc1⟩:=bind_at HA.out (by omega:0<a.length)
    obtain ⟨b2,o2,rfl,hR2,hc2⟩:=bind_at HB.out (by omega:0<b.length)
    obtain ⟨c0,c1⟩:=hc1 k hlt
    obtain ⟨d0,d1⟩:=hc2 k hlb
    have HT:=hid (fun he=>take_nextL htk hlt hlb he)
    have HN:=hid (fun he=>ne_atL hlt hlb he)
    have HLT:=hid hlt
    clear hc1 hc2 htk hR1 hR2
    generalize a[k]=x at *
    generalize b[k]=y at *
    by_cases hxy:x=y
    ·have HT':=hid (HT.out hxy)
     clear HT HN
     subst hxy
     obtain ⟨x0,x1⟩:=x
     simp only at c0 c1 d0 d1
     go_wp2_with fail
     go_quiet (fail)
     go_wp2
     go_roundw
     case rel=>exact ⟨k+1,n+nq,HLT.out,by first | rfl | trivial,by rw [wrap_next HLT.out HA.out.len],HT'.out,by first | rfl | rw [World.drewN_drewN]⟩
     case measure=>exact meas_next HLT.out HA.out.len
    ·have HB2:=hid (show r=false from by rw [← HR.out];exact decide_eq_false (HN.out hxy))
     clear HT HN
     obtain ⟨x0,x1⟩:=x
     obtain ⟨y0,y1⟩:=y
     simp only at c0 c1 d0 d1
     by_cases h0:x0=y0
     ·subst h0
      have h1:x1 ≠ y1:=fun e=>hxy (by rw [e])
      have hwd:(x1 == y1)=false:=by rw [beq_eq_false_iff_ne];exact h1
      clear hxy h1
      go_wp2_with fail
      go_quiet (fail)
      go_wp2
      go_ret
      exact ⟨by rw [HB2.out];rfl,n+nq,by first | rfl | rw [World.drewN_drewN]⟩
     ·have hwd:=str_neF h0
      clear hxy h0
      go_wp2_with fail
      go_quiet (fail)
      go_wp2
      go_ret
      exact ⟨by rw [HB2.out];rfl,n+nq,by first | rfl | rw [World.drewN_drewN]⟩
   ·obtain rfl:k=a.length:=by omega
    have HB2:=hid (show r=true from by rw [← HR.out];exact decide_eq_true (eq_fullL htk (by omega)))
    clear htk hlt
    go_wp2
    go_ret
    exact ⟨by rw [HB2.out];rfl,n,rfl⟩
 ·have hne:((a.length:Int) != (b.length:Int))=true:=by simp;omega
  have HB2:=hid (show r=false from by rw [← HR.out];exact decide_eq_false (fun e=>hl (by rw [e])))
  clear hl
  go_enter Tryd.func46,Tryd.ntmps46
  go_wp2
  go_ret
  exact ⟨by rw [HB2.out];rfl,0,rfl⟩
end Go.Proofs.YtbijamcoibonkaaDoor
