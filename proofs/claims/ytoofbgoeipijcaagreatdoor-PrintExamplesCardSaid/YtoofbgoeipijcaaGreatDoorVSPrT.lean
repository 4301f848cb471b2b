/-
 A part.
-/
import Derived.Test.YtoofbgoeipijcaaGreatDoorVB10
namespace Go.Proofs.YtoofbgoeipijcaaGreatDoor
set_option linter.all false
open Go.RowKit Go.Shelf
attribute [local go_sem] Oper.semAt_some
def TgPost (res:Option Flt) (w:World) (e:Ending) (w':World):Prop:=(match res with | none=>e=.returned (.tuple #[]) | some f=>e=.panicked (fltC f))/\Below w.heap.size w w'
theorem TgPost.bad {f:Flt} {w w':World} (hb:Below w.heap.size w w'):TgPost (some f) w (.panicked (fltC f)) w':=⟨rfl,hb⟩
theorem TgPost.ok {w w':World} (hb:Below w.heap.size w w'):TgPost none w (.returned (.tuple #[])) w':=⟨rfl,hb⟩
theorem targetsM_cons (p:Pg) (l:List Bs) (x:In) (r:List In):targetsM p l (x :: r)=match targetM p l x with | some f=>some f | none=>targetsM p l r:=rfl
theorem targetM_jump {p:Pg} {l:List Bs} {x:In} (h:x.kind=8\/x.kind=9):targetM p l x=if l.contains x.nm then none else some (x.pos,6):=by unfold targetM;rw [if_pos h]
theorem targetM_call {p:Pg} {l:List Bs} {x:In} (h:x.kind=4):targetM p l x=match paramsOf p x.nm with | none=>some (x.pos,6) | some n=>if n=x.args.length then none else some (x.pos,4):=by unfold targetM;rw [if_neg (by omega),if_pos h];cases paramsOf p x.nm <;> rfl
theorem targetM_none {p:Pg} {l:List Bs} {x:In} (h:x.kind ≠ 8/\x.kind ≠ 9/\x.kind ≠ 4):targetM p l x=none:=by unfold targetM;rw [if_neg (by omega),if_neg (by omega)]
set_option maxRecDepth 100000 in
set_option maxHeartbeats 4000000 in
theorem targets_any (p:Pg) (l:List In) (lb:List Bs) (d:List (Bs × Nat)) (v:Value) (cb mp r:Nat) (w:World) (h:SlG kIn (·<w.heap.size) w v l) (hbox:w.cell? ⟨cb,8,none⟩=some (.map (some mp))) (hct:CtS w mp d) (hnl:NmS w r lb)
  (hd:∀ s,getC d s=paramsOf p s) (res:Option Flt) (hres:targetsM p lb l=res) :
  Calls Tryz.prog 121 #[.pointer (some ⟨cb,0,none⟩),v,.map (some r)] w (TgPost res w):=by
 obtain ⟨q,c,rfl⟩:=h.slc
 have HS:=hid h;have HBC:=hid hbox;have HC0:=hid hct;have HN0:=hid hnl;have HD:=hid hd
 have HR0:=hid (show targetsM p lb (l.drop 0)=res from hres)
 clear h hbox hct hnl hd hres
 go_enter Tryz.func121,Tryz.ntmps121
 go_wp2
 go_loopw [7,8,9,12] (fun v7 v8 v9 iv wr=>∃ k:Nat,k<=l.length/\iv=.int .i64 (k:Int)/\targetsM p lb (l.drop k)=res/\Below w.heap.size w wr) (fun _ _ _ iv _=>l.length - (intOf iv).toNat)
 case atStart=>exact ⟨0,Nat.zero_le _,rfl,HR0.out,Below.refl _ _⟩
 case round =>
  obtain ⟨k,hk,rfl,hm,hbr⟩:=hrel
  by_cases hlt:k<l.length
  ·have hm2:=hm
   rw [List.drop_eq_getElem_cons hlt,targetsM_cons] at hm2
   obtain ⟨b,off,rfl,hR,hcells⟩:=in_at HS.out (by omega:0<l.length)
   obtain ⟨pa,ca,hsa,c0,c1,c2,c3,c4,c5,c6⟩:=hcells k hlt
   have d0:=(hbr.cell (p:=⟨b,off+k*7,none⟩) hR).trans c0
   have d1:=(hbr.cell (p:=⟨b,off+k*7+1,none⟩) hR).trans c1
   have d2:=(hbr.cell (p:=⟨b,off+k*7+2,none⟩) hR).trans c2
   have d3:=(hbr.cell (p:=⟨b,off+k*7+3,none⟩) hR).trans c3
   have d4:=(hbr.cell (p:=⟨b,off+k*7+4,none⟩) hR).trans c4
   have d5:=(hbr.cell (p:=⟨b,off+k*7+5,none⟩) hR).trans c5
   have d6:=(hbr.cell (p:=⟨b,off+k*7+6,none⟩) hR).trans c6
   have HSN:=hid hm2
   have HLT:=hid hlt;have HBR:=hid hbr
   clear hcells hsa c0 c1 c2 c3 c4 c5 c6 hR hbr hm hm2
   generalize l[k]=x at *
   clear hlt
   go_upto_region 3 with fail
   obtain ⟨wo,hwo⟩:∃ W,wr.alloc (.cells #[.int .u8 (x.kind:Int),.int .u8 (x.op:Int),.string ⟨x.dst.toArray⟩,.string ⟨x.nm.toArray⟩,.slice pa x.args.length ca,.int .i64 x.pos.1,.int .i64 x.pos.2] 41)=W:=⟨_,rfl⟩
   have hbo:Below wr.heap.size wr wo:=by rw [<- hwo];exact bA
   have hbx:BxL 41 wr.heap.size (inL x (.slice pa x.args.length ca)) wo:=by rw [<- hwo];exact BxL.new _ _ _
   rw [hwo]
   have n0:wo.cell? ⟨wr.heap.size,0,none⟩=some (.int .u8 (x.kind:Int)):=hbx.at 0 rfl
   have n3:wo.cell? ⟨wr.heap.size,3,none⟩=some (.string ⟨x.nm.toArray⟩):=hbx.at 3 rfl
   have n5:wo.cell? ⟨wr.heap.size,5,none⟩=some (.int .i64 x.pos.1):=hbx.at 5 rfl
   have n6:wo.cell? ⟨wr.heap.size,6,none⟩=some (.int .i64 x.pos.2):=hbx.at 6 rfl
   have hbw:=HBR.trans (hbo.mono HBR.size)
   have HNL:=hid (HN0.keep (hbw.block r HN0.lt))
   have HCT:=hid (HC0.keep (hbw.block mp HC0.lt))
   have k8:wo.cell? ⟨cb,8,none⟩=some (.map (some mp)):=(hbw.cell (p:=⟨cb,8,none⟩) (cell_size HBC.out)).trans HBC.out
   have HBO:=hid hbw
   have HBX:=hid hbx
   clear hwo hbo hbx hbw d0 d1 d2 d3 d4 d5 d6
   rcases (show x.kind=8\/x.kind=9\/x.kind=4\/(x.kind ≠ 8/\x.kind ≠ 9/\x.kind ≠ 4) by omega) with hkd | hkd | hkd | hkd
   ·have t8:((x.kind:Int) == 8)=true:=by rw [hkd];rfl
    rw [targetM_jump (by omega)] at HSN
    clear hkd
    cases hcs:lb.contains x.nm with
    | true =>
     have HCS:=hid hcs
     have HST:=hid (show targetsM p lb (l.drop (k+1))=res from by rw [<- HSN.out,hcs];rfl)
     clear hcs
     go_wp2_with (first
      | (at_lookup;refine wpList_lookS rfl _ _ 119 rfl 9 4 Tryz.underlying119 Tryz.underlying9 (.bool false) (fun W=>by kernel_rfl) r (nmE lb) x.nm rfl HNL.out rfl ?_;rw [nmE_get,HCS.out])
      | (go_at_call 118;with_reducible refine (need_true x.pos 6 _).mono ?_;rintro e w9 ⟨rfl,hb9⟩;have HB9:=hid (HBO.out.trans (hb9.mono HBO.out.size));have hbx9:=HBX.out.bel hb9;clear hb9))
     go_roundw
     case rel=>exact ⟨k+1,HLT.out,by rw [wrap_next HLT.out HS.len],HST.out,by first | exact HB9.out | exact HBO.out⟩
     case measure=>exact meas_next HLT.out HS.len
    | false =>
     have HCS:=hid hcs
     have HST:=hid (show some (x.pos,(6:Int))=res from by rw [<- HSN.out,hcs];rfl)
     clear hcs
     go_wp2_with (first
      | (at_lookup;refine wpList_lookS rfl _ _ 119 rfl 9 4 Tryz.underlying119 Tryz.underlying9 (.bool false) (fun W=>by kernel_rfl) r (nmE lb) x.nm rfl HNL.out rfl ?_;rw [nmE_get,HCS.out])
      | (go_at_call 118;with_reducible refine (need_false x.pos 6 _).mono ?_;rintro e w9 ⟨rfl,hb9⟩;have HB9:=hid (HBO.out.trans (hb9.mono HBO.out.size));have hbx9:=HBX.out.bel hb9;clear hb9))
     exact ⟨rfl,by rw [<- HST.out];exact TgPost.bad HB9.out⟩
   ·have t8:((x.kind:Int) == 8)=false:=by rw [hkd];rfl
    have t9:((x.kind:Int) == 9)=true:=by rw [hkd];rfl
    rw [targetM_jump (by omega)] at HSN
    clear hkd
    cases hcs:lb.contains x.nm with
    | true =>
     have HCS:=hid hcs
     have HST:=hid (show targetsM p lb (l.drop (k+1))=res from by rw [<- HSN.out,hcs];rfl)
     clear hcs
     go_wp2_with (first
      | (at_lookup;refine wpList_lookS rfl _ _ 119 rfl 9 4 Tryz.underlying119 Tryz.underlying9 (.bool false) (fun W=>by kernel_rfl) r (nmE lb) x.nm rfl HNL.out rfl ?_;rw [nmE_get,HCS.out])
      | (go_at_call 118;with_reducible refine (need_true x.pos 6 _).mono ?_;rintro e w9 ⟨rfl,hb9⟩;have HB9:=hid (HBO.out.trans (hb9.mono HBO.out.size));have hbx9:=HBX.out.bel hb9;clear hb9))
     go_roundw
     case rel=>exact ⟨k+1,HLT.out,by rw [wrap_next HLT.out HS.len],HST.out,by first | exact HB9.out | exact HBO.out⟩
     case measure=>exact meas_next HLT.out HS.len
    | false =>
     have HCS:=hid hcs
     have HST:=hid (show some (x.pos,(6:Int))=res from by rw [<- HSN.out,hcs];rfl)
     clear hcs
     go_wp2_with (first
      | (at_lookup;refine wpList_lookS rfl _ _ 119 rfl 9 4 Tryz.underlying119 Tryz.underlying9 (.bool false) (fun W=>by kernel_rfl) r (nmE lb) x.nm rfl HNL.out rfl ?_;rw [nmE_get,HCS.out])
      | (go_at_call 118;with_reducible refine (need_false x.pos 6 _).mono ?_;rintro e w9 ⟨rfl,hb9⟩;have HB9:=hid (HBO.out.trans (hb9.mono HBO.out.size));have hbx9:=HBX.out.bel hb9;clear hb9))
     exact ⟨rfl,by rw [<- HST.out];exact TgPost.bad HB9.out⟩
   ·have t8:((x.kind:Int) == 8)=false:=by rw [hkd];rfl
    have t9:((x.kind:Int) == 9)=false:=by rw [hkd];rfl
    have t4:((x.kind:Int) == 4)=true:=by rw [hkd];rfl
    rw [targetM_call hkd,<- HD.out] at HSN
    clear hkd
    go_upto_region 8 with fail
    have hS:(fun W=>W.cell? ⟨cb,8,none⟩=some (.map (some mp))/\W.cell? ⟨wr.heap.size,3,none⟩=some (.string ⟨x.nm.toArray⟩)) wo.drew:=⟨k8,n3⟩
    have n4:wo.cell? ⟨wr.heap.size,4,none⟩=some (.slice pa x.args.length ca):=HBX.at 4 rfl
    cases hpo:getC d x.nm with
    | none =>
     have HST:=hid (show some (x.pos,(6:Int))=res from by rw [<- HSN.out,hpo])
     have HPO:=hid hpo
     clear hpo
     have hFa:=fT
     refine rgN (fun W=>W.cell? ⟨cb,8,none⟩=some (.map (some mp))/\W.cell? ⟨wr.heap.size,3,none⟩=some (.string ⟨x.nm.toArray⟩)) 12 (by kernel_rfl) ?_
     simp only [zP,Nat.reduceAdd]
     iterate 6 (refine nxW (v:=?_) 12 hS ?_ ?_;rotate_left;(focus intro w' hS';obtain ⟨s0,s1⟩:=hS';go_simp;try rfl);simp only [aP])
     refine oy 6 fun K hK=>?_
     have hlk:(Instr.lookup 120 (.map (some mp)) (.string ⟨x.nm.toArray⟩) true).run Tryz.prog wo.drew=.ok (.tuple #[.int .i64 0,.bool false]) wo.drew:=by
      have h:=run_lookS (P:=Tryz.prog) (w:=wo.drew) (t:=120) (kt:=9) (e:=3) (HCT.out:MapS wo.drew mp (ctE d)) Tryz.underlying120 Tryz.underlying9 x.nm (.int .i64 0) (by kernel_rfl) true
      rw [ctE_get,HPO.out] at h
      exact h
     go_simp
     refine hK _ _ (.inr (.inr hS)) ?_
     clear hK K
     iterate 4 (refine nxW (v:=?_) 12 hS ?_ ?_;rotate_left;(focus intro w' hS';obtain ⟨s0,s1⟩:=hS';go_simp;try rfl);simp only [aP])
     refine oy 11 fun K hK=>?_
     go_simp
     refine hK _ _ (.inr (.inr hS)) (dN ?_)
     clear hK K
     simp only [onlyN,Exit.then]
     clear hFa
     have HBD:=hid HBO.drew
     have HBXD:=hid (show BxL 41 wr.heap.size (inL x (.slice pa x.args.length ca)) wo.drew from HBX.out)
     go_wp2_with (first
      | (go_at_call 118;with_reducible refine (need_false x.pos 6 _).mono ?_;rintro e w9 ⟨rfl,hb9⟩;have HB9:=hid (HBD.out.trans (hb9.mono HBD.out.size));have hbx9:=HBXD.out.bel hb9;clear hb9))
     exact ⟨rfl,by rw [<- HST.out];exact TgPost.bad HB9.out⟩
    | some n =>
     have HPO:=hid hpo
     have HSN2:=hid (show (match (if n=x.args.length then none else some (x.pos,(4:Int)):Option Flt) with | some f=>some f | none=>targetsM p lb (l.drop (k+1)))=res from by rw [<- HSN.out,hpo])
     clear hpo
     have hFa:=fT
     refine rgN (fun W=>W.cell? ⟨cb,8,none⟩=some (.map (some mp))/\W.cell? ⟨wr.heap.size,3,none⟩=some (.string ⟨x.nm.toArray⟩)) 12 (by kernel_rfl) ?_
     simp only [zP,Nat.reduceAdd]
     iterate 6 (refine nxW (v:=?_) 12 hS ?_ ?_;rotate_left;(focus intro w' hS';obtain ⟨s0,s1⟩:=hS';go_simp;try rfl);simp only [aP])
     refine oy 6 fun K hK=>?_
     have hlk:(Instr.lookup 120 (.map (some mp)) (.string ⟨x.nm.toArray⟩) true).run Tryz.prog wo.drew=.ok (.tuple #[.int .i64 (n:Int),.bool true]) wo.drew:=by
      have h:=run_lookS (P:=Tryz.prog) (w:=wo.drew) (t:=120) (kt:=9) (e:=3) (HCT.out:MapS wo.drew mp (ctE d)) Tryz.underlying120 Tryz.underlying9 x.nm (.int .i64 0) (by kernel_rfl) true
      rw [ctE_get,HPO.out] at h
      exact h
     go_simp
     refine hK _ _ (.inr (.inr hS)) ?_
     clear hK K
     iterate 4 (refine nxW (v:=?_) 12 hS ?_ ?_;rotate_left;(focus intro w' hS';obtain ⟨s0,s1⟩:=hS';go_simp;try rfl);simp only [aP])
     refine oy 11 fun K hK=>?_
     go_simp
     refine hK _ _ (.inr (.inr hS)) (dN ?_)
     clear hK K
     simp only [onlyN,Exit.then]
     clear hFa
     have HBD:=hid HBO.drew
     have HBXD:=hid (show BxL 41 wr.heap.size (inL x (.slice pa x.args.length ca)) wo.drew from HBX.out)
     by_cases hna:n=x.args.length
     ·have t5:((n:Int) == (x.args.length:Int))=true:=by rw [hna];simp
      have HST:=hid (show targetsM p lb (l.drop (k+1))=res from by rw [<- HSN2.out,if_pos hna])
      clear hna
      go_upto_region 10 with (first
       | (go_at_call 118;with_reducible refine (need_true x.pos 6 _).mono ?_;rintro e w9 ⟨rfl,hb9⟩;have HB9:=hid (HBD.out.trans (hb9.mono HBD.out.size));have hbx9:=HBXD.out.bel hb9;clear hb9))
      have m4:w9.cell? ⟨wr.heap.size,4,none⟩=some (.slice pa x.args.length ca):=hbx9.at 4 rfl
      have m5:w9.cell? ⟨wr.heap.size,5,none⟩=some (.int .i64 x.pos.1):=hbx9.at 5 rfl
      have m6:w9.cell? ⟨wr.heap.size,6,none⟩=some (.int .i64 x.pos.2):=hbx9.at 6 rfl
      go_wp2_with (go_at_call 118;with_reducible refine (need_true x.pos 4 _).mono ?_;rintro e wz ⟨rfl,hbz⟩;have HBZ:=hid (HB9.out.trans (hbz.mono HB9.out.size));clear hbz)
      go_roundw
      case rel=>exact ⟨k+1,HLT.out,by rw [wrap_next HLT.out HS.len],HST.out,by first | exact HBZ.out | exact HBO.out⟩
      case measure=>exact meas_next HLT.out HS.len
     ·have t5:((n:Int) == (x.args.length:Int))=false:=by simp;omega
      have HST:=hid (show some (x.pos,(4:Int))=res from by rw [<- HSN2.out,if_neg hna])
      clear hna
      go_upto_region 10 with (first
       | (go_at_call 118;with_reducible refine (need_true x.pos 6 _).mono ?_;rintro e w9 ⟨rfl,hb9⟩;have HB9:=hid (HBD.out.trans (hb9.mono HBD.out.size));have hbx9:=HBXD.out.bel hb9;clear hb9))
      have m4:w9.cell? ⟨wr.heap.size,4,none⟩=some (.slice pa x.args.length ca):=hbx9.at 4 rfl
      have m5:w9.cell? ⟨wr.heap.size,5,none⟩=some (.int .i64 x.pos.1):=hbx9.at 5 rfl
      have m6:w9.cell? ⟨wr.heap.size,6,none⟩=some (.int .i64 x.pos.2):=hbx9.at 6 rfl
      go_wp2_with (go_at_call 118;with_reducible refine (need_false x.pos 4 _).mono ?_;rintro e wz ⟨rfl,hbz⟩;have HBZ:=hid (HB9.out.trans (hbz.mono HB9.out.size));clear hbz)
      exact ⟨rfl,by rw [<- HST.out];exact TgPost.bad HBZ.out⟩
   ·have t8:((x.kind:Int) == 8)=false:=by simp;omega
    have t9:((x.kind:Int) == 9)=false:=by simp;omega
    have t4:((x.kind:Int) == 4)=false:=by simp;omega
    have HST:=hid (show targetsM p lb (l.drop (k+1))=res from by rw [<- HSN.out,targetM_none hkd])
    clear hkd
    go_wp2_with fail
    go_roundw
    case rel=>exact ⟨k+1,HLT.out,by rw [wrap_next HLT.out HS.len],HST.out,HBO.out⟩
    case measure=>exact meas_next HLT.out HS.len
  ·obtain rfl:k=l.length:=by omega
   have HR:=hid (show none=res from by rw [<- hm,List.drop_length];rfl)
   have HBR:=hid hbr
   clear hlt hbr hm
   go_wp2_with fail
   go_end0
   rw [<- HR.out];exact TgPost.ok HBR.out
end Go.Proofs.YtoofbgoeipijcaaGreatDoor
