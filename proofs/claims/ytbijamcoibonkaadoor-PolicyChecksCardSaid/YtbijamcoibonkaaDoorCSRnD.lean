/-
 The reference: names with levels.
-/
import Derived.Test.YtbijamcoibonkaaDoorCSPoI
import Derived.Test.YtbijamcoibonkaaDoorCSPoX
import Derived.Test.YtbijamcoibonkaaDoorCSTkN
import Derived.Deep.DeepCutAuto
namespace Go.Proofs.YtbijamcoibonkaaDoor
set_option linter.unusedSimpArgs false
set_option linter.unusedVariables false
open Go.RowKit Go.Shelf
attribute [local go_sem] Oper.semAt_some
theorem take_containsP (l:List Bs) (s:Bs) (k:Nat) (hlt:k<l.length) (hc:(l.take k).contains s=false) (hx:l[k] ≠ s):(l.take (k+1)).contains s=false:=by
 rw [List.take_succ_eq_append_getElem hlt,Bool.eq_false_iff]
 intro h
 rcases List.mem_append.1 (List.contains_iff_mem.1 h) with h | h
 ·rw [Bool.eq_false_iff] at hc;exact hc (List.contains_iff_mem.2 h)
 ·simp at h;exact hx h.symm
set_option maxRecDepth 100000 in
set_option maxHeartbeats 4000000 in
theorem ris_po (l:List Bs) (s:Bs) (v:Value) (R:Nat→Prop) (w:World) (h:SlG kStr R w v l) :
  Calls Tryd.prog 38 #[v,.string ⟨s.toArray⟩] w fun e w'=>e = .returned (.bool (l.contains s))∧w'=w:=by
 obtain ⟨p,c,rfl⟩:=h.slc
 have HS:=hid h
 obtain ⟨r,hr⟩:∃ r,l.contains s=r:=⟨_,rfl⟩
 have HR:=hid hr
 rw [hr]
 clear h hr
 go_enter Tryd.func38,Tryd.ntmps38
 go_wp2
 go_loopw [5] (fun iv wr=>∃ k:Nat,k≤l.length∧iv = .int .i64 (k:Int)∧(l.take k).contains s=false∧w=wr) (fun iv _=>l.length - (intOf iv).toNat)
 case atStart=>exact ⟨0,Nat.zero_le _,rfl,by simp,rfl⟩
 case round =>
  obtain ⟨k,hk,rfl,hc,rfl⟩:=hrel
  have HC:=hid hc
  clear hc
  by_cases hlt:k<l.length
  ·obtain ⟨b,off,rfl,hR,hcells⟩:=str_at HS.out (by omega:0<l.length)
   have d0:=hcells k hlt
   have HLT:=hid hlt
   clear hcells hR
   have HNX:=hid (fun hx=>take_containsP l s k hlt HC.out hx)
   have HRT:=hid (show l[k]=s→r=true from fun hx=>by rw [← HR.out,List.contains_iff_mem,← hx];exact List.getElem_mem hlt)
   generalize l[k]=x at *
   by_cases hx:x=s
   ·subst hx
    have HRU:=hid (HRT.out rfl)
    clear HRT HNX
    go_wp2_with fail
    go_ret
    have h9:=HRU.out
    subst h9
    first | exact ⟨rfl,rfl⟩ | exact ⟨rfl,trivial⟩
   ·have HNY:=hid (HNX.out hx)
    clear HNX HRT
    have hwd:=str_neF hx
    clear hx
    go_wp2_with fail
    go_roundw
    case rel=>exact ⟨k+1,HLT.out,by rw [wrap_next HLT.out HS.out.len],HNY.out,by first | rfl | trivial⟩
    case measure=>exact meas_next HLT.out HS.out.len
  ·obtain rfl:k=l.length:=by omega
   have HRF:=hid (show r=false from by rw [← HR.out];have h:=HC.out;rwa [List.take_length] at h)
   clear hlt
   go_wp2_with fail
   go_ret
   have h9:=HRF.out
   subst h9
   first | exact ⟨rfl,rfl⟩ | exact ⟨rfl,trivial⟩
set_option maxRecDepth 100000 in
set_option maxHeartbeats 4000000 in
theorem rbinds_any (l:List (Bs × Int)) (n:Nat) (v:Value) (w:World) (h:SlG kBind (·<w.heap.size) w v l) (hs:ShortB l) (hn:n≤100000) :
  Calls Tryd.prog 40 #[v,.int .i64 (n:Int)] w fun e w'=>e = .returned (.int .i64 (listE n l))∧Below w.heap.size w w':=by
 obtain ⟨p,c,rfl⟩:=h.slc
 have HS:=hid h;have HL:=hid h.len;have HSH:=hid hs
 clear h hs
 by_cases h32:32<l.length
 ·have HE:=hid (show listE n l=5 from if_pos h32)
  obtain ⟨ol,hol⟩:∃ ol,l.length=ol:=⟨_,rfl⟩
  rw [hol] at h32 ⊢
  have t1:decide (32<(ol:Int))=true:=decide_eq_true (by omega)
  have t1':32<(ol:Int):=by omega
  clear hol HL HS h32
  go_enter Tryd.func40,Tryd.ntmps40
  go_wp2_with fail
  go_ret
  exact ⟨by rw [HE.out];rfl,Below.refl _ _⟩
 have HE:=hid (show listE n l=bindsE n [] l from if_neg h32)
 obtain ⟨ol,hol⟩:∃ ol,l.length=ol:=⟨_,rfl⟩
 rw [hol] at HS h32 HL ⊢
 have t1:decide (32<(ol:Int))=false:=decide_eq_false (by omega)
 have t1':¬ 32<(ol:Int):=by omega
 have HO:=hid hol
 have HO32:=hid (show ol≤32 by omega)
 clear hol h32
 go_enter Tryd.func40,Tryd.ntmps40
 go_wp2_with fail
 go_loopw [5,6] (fun hv iv wr=>∃ k:Nat,k≤ol∧iv = .int .i64 (k:Int)∧GA kStr w.heap.size 9 wr hv ((l.take k).map (·.1))∧bindsE n [] l=bindsE n ((l.take k).map (·.1)) (l.drop k)∧Below w.heap.size w wr) (fun _ iv _=>ol - (intOf iv).toNat)
 case atStart=>exact ⟨0,Nat.zero_le _,rfl,GA.nil _ _ _ _,rfl,Below.refl _ _⟩
 case round =>
  obtain ⟨k,hk,rfl,hga,hm,hbr⟩:=hrel
  have HBR:=hid hbr
  by_cases hlt:k<ol
  ·have t2:decide ((k:Int)<(ol:Int))=true:=decide_eq_true (by omega)
   have hlt':k<l.length:=by rw [HO.out];exact hlt
   have hk32:(k:Int)≤32:=by have:=HO32.out;omega
   obtain ⟨b0,off,rfl,hR,hcells⟩:=bind_at HS.out (by omega:0<l.length)
   obtain ⟨c0,c1⟩:=hcells k hlt'
   have d0:=(hbr.cell (p:=⟨b0,off+k*2,none⟩) hR).trans c0
   have d1:=(hbr.cell (p:=⟨b0,off+k*2+1,none⟩) hR).trans c1
   have HM:=hid (hm.trans (by rw [List.drop_eq_getElem_cons hlt',bindsE_step]))
   obtain ⟨T,hT⟩:∃ T,(l.take k).map (·.1)=T:=⟨_,rfl⟩
   have HTK:=hid (show (l.take (k+1)).map (·.1)=T++[l[k].1] from by rw [show l.take (k+1)=l.take k++[l[k]] by simp,List.map_append,hT];rfl)
   have HTL:=hid (show T.length≤32 from by rw [← hT,List.length_map,List.length_take];omega)
   rw [hT] at hga HM
   obtain ⟨pv,cv,rfl⟩:=hga.slc
   have HGA:=hid hga
   have HSH1:=HSH.out l[k] (List.getElem_mem _)
   have HLT:=hid hlt'
   clear hcells c0 c1 hR hm hT hga
   generalize l[k]=f at *
   obtain ⟨fs,fz⟩:=f
   dsimp only at d0 d1 HM HTK HSH1
   have HNM:=hid (fun W=>rname_any fs W HSH1)
   have HCT:=hid (fun (_:Unit)=>ris_po T fs _ _ wr (HGA.out.sl (by have:=HTL.out;omega)))
   by_cases q1:nameB fs=false
   ·rw [q1] at HNM
    rw [if_pos q1] at HM
    clear q1 hbr
    go_wp2_with (go_at_call 37;(with_reducible refine (HNM.out _).mono ?_);rintro e w1 ⟨rfl,h1⟩;subst h1)
    go_ret
    exact ⟨by rw [HE.out,HM.out];rfl,HBR.out⟩
   rw [if_neg q1] at HM
   rw [Bool.not_eq_false] at q1
   rw [q1] at HNM
   clear q1
   by_cases q2:T.contains fs=true
   ·rw [q2] at HCT
    rw [if_pos q2] at HM
    clear q2 hbr
    go_wp2_with (first
     | (go_at_call 37;(with_reducible refine (HNM.out _).mono ?_);rintro e w1 ⟨rfl,h1⟩;subst h1)
     | (go_at_call 38;(with_reducible refine (HCT.out ()).mono ?_);rintro e w2 ⟨rfl,h2⟩;subst h2))
    go_ret
    exact ⟨by rw [HE.out,HM.out];rfl,HBR.out⟩
   rw [if_neg q2] at HM
   rw [Bool.not_eq_true] at q2
   rw [q2] at HCT
   clear q2
   by_cases q3:fz<0∨(n:Int)≤fz
   ·rw [if_pos q3] at HM
    rcases q3 with q3 | q3
    ·have f1:decide (fz<0)=true:=decide_eq_true q3
     clear hbr
     go_wp2_with (first
      | (go_at_call 37;(with_reducible refine (HNM.out _).mono ?_);rintro e w1 ⟨rfl,h1⟩;subst h1)
      | (go_at_call 38;(with_reducible refine (HCT.out ()).mono ?_);rintro e w2 ⟨rfl,h2⟩;subst h2))
     go_ret
     exact ⟨by rw [HE.out,HM.out];rfl,HBR.out⟩
    ·have f1:decide (fz<0)=false:=decide_eq_false (by omega)
     have f2:decide ((n:Int)≤fz)=true:=decide_eq_true q3
     clear hbr
     go_wp2_with (first
      | (go_at_call 37;(with_reducible refine (HNM.out _).mono ?_);rintro e w1 ⟨rfl,h1⟩;subst h1)
      | (go_at_call 38;(with_reducible refine (HCT.out ()).mono ?_);rintro e w2 ⟨rfl,h2⟩;subst h2))
     go_ret
     exact ⟨by rw [HE.out,HM.out];rfl,HBR.out⟩
   rw [if_neg q3] at HM
   have f1:decide (fz<0)=false:=decide_eq_false (by omega)
   have f2:decide ((n:Int)≤fz)=false:=decide_eq_false (by omega)
   have f2':¬ (n:Int)≤fz:=by omega
   clear q3 hbr
   go_wp2_with (first
    | (go_at_call 37;(with_reducible refine (HNM.out _).mono ?_);rintro e w1 ⟨rfl,h1⟩;subst h1)
    | (go_at_call 38;(with_reducible refine (HCT.out ()).mono ?_);rintro e w2 ⟨rfl,h2⟩;subst h2)
    | (at_builtin;refine wpList_push (K:=kStr) (x:=fs) (cs:=[.string ⟨fs.toArray⟩]) (te:=9) rfl _ _ 22 rfl Tryd.underlying22 _ 16 info_strI rfl HGA.out rfl rfl rfl (by have:=HTL.out;omega) (by have:=HTL.out;unfold maxLen;omega) HBR.out.size ?_;intro v5 w5 hg5 hgr5 hm5;have HG5:=hid hg5;have HB5:=hid (below_push HGA.out HBR.out hgr5 HBR.out.size);clear hg5 hgr5 hm5))
   go_roundw
   case rel=>exact ⟨k+1,by omega,by go_num,by rw [HTK.out];exact HG5.out,by rw [HM.out,HTK.out],HB5.out⟩
   case measure=>simp [intOf];omega
  ·have eqn:ol=k:=by omega
   subst eqn
   have t2:decide ((ol:Int)<(ol:Int))=false:=decide_eq_false (by omega)
   have HM:=hid (show bindsE n [] l=0 from by rw [hm,List.drop_eq_nil_of_le (by have:=HO.out;omega)];rfl)
   clear hm hbr hga hlt
   go_wp2_with fail
   go_ret
   exact ⟨by rw [HE.out,HM.out];rfl,HBR.out⟩
end Go.Proofs.YtbijamcoibonkaaDoor
