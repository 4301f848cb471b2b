/-
 Policies: what is checked.
-/
import Derived.Test.YtbijamcoibonkaaDoorCSLtO
import Derived.Test.YtbijamcoibonkaaDoorCB14
import Derived.Test.YtbijamcoibonkaaDoorCB24
import Derived.Test.YtbijamcoibonkaaDoorCB15
namespace Go.Proofs.YtbijamcoibonkaaDoor
set_option linter.unusedSimpArgs false
set_option linter.unusedVariables false
open Go.RowKit Go.Shelf
attribute [local go_sem] Oper.semAt_some
theorem bind_at {R:Nat→Prop} {w:World} {p:Option Addr} {n c:Nat} {l:List (Bs × Int)} (h:SlG kBind R w (.slice p n c) l) (hl:0<l.length) :
  ∃ b off,p=some ⟨b,off,none⟩∧R b∧∀ k (hk:k<l.length),w.cell? ⟨b,off+k*2,none⟩=some (.string ⟨l[k].1.toArray⟩)∧w.cell? ⟨b,off+k*2+1,none⟩=some (.int .i64 l[k].2):=by
 obtain ⟨b,off,e,hR,hc⟩:=h.at hl
 refine ⟨b,off,e,hR,fun k hk=>?_⟩
 obtain ⟨cs,hcs,hat⟩:=hc k hk
 have hcs:cs=[.string ⟨l[k].1.toArray⟩,.int .i64 l[k].2]:=hcs
 subst hcs
 exact ⟨hat 0 _ rfl,hat 1 _ rfl⟩
theorem SlG.cap {α:Type} {K:EK α} {R:Nat→Prop} {w:World} {p:Option Addr} {n c:Nat} {l:List α} (h:SlG K R w (.slice p n c) l):n≤c∧c≤maxLen:=by
 obtain ⟨css,h1,p',c',e,h2,h3,_⟩:=h
 cases e
 exact ⟨h2,h3⟩
theorem clos_b (x s:Bs) (z:Int) (b:Nat) (w:World) (hb:w.cell? ⟨b,0,none⟩=some (.string ⟨s.toArray⟩)) :
  Calls Tryd.prog 58 #[.agg #[.string ⟨x.toArray⟩,.int .i64 z],.pointer (some ⟨b,0,none⟩)] w fun e w'=>e = .returned (.bool (decide (x=s)))∧Below w.heap.size w w':=by
 have hbo:∀ o,(w.alloc o).cell? ⟨b,0,none⟩=some (.string ⟨s.toArray⟩):=fun o=>(((Below.refl w.heap.size w).alloc (Nat.le_refl _) o).cell (p:=⟨b,0,none⟩) (cell_size hb)).trans hb
 clear hb
 by_cases h:x=s
 ·subst h
  have t1:(x == x)=true:=beq_self_eq_true x
  have HD:=hid (decide_eq_true (rfl:x=x))
  go_enter Tryd.func58,Tryd.ntmps58
  go_wp2
  go_ret
  exact ⟨by first | rfl | (rw [HD.out];rfl),(Below.refl _ _).alloc (Nat.le_refl _) _⟩
 ·have t1:(x == s)=false:=beq_eq_false_iff_ne.2 h
  have HD:=hid (decide_eq_false h)
  clear h
  go_enter Tryd.func58,Tryd.ntmps58
  go_wp2
  go_ret
  exact ⟨by first | rfl | (rw [HD.out];rfl),(Below.refl _ _).alloc (Nat.le_refl _) _⟩
set_option maxRecDepth 100000 in
set_option maxHeartbeats 4000000 in
theorem idx_b (l:List (Bs × Int)) (s:Bs) (v:Value) (b:Nat) (w:World) (h:SlG kBind (·<w.heap.size) w v l) (hb:w.cell? ⟨b,0,none⟩=some (.string ⟨s.toArray⟩)) :
  Calls Tryd.prog 74 #[v,.func (.func 58) #[] #[.pointer (some ⟨b,0,none⟩)]] w fun e w'=>(∃ z:Int,e = .returned (.int .i64 z)∧decide (0≤z)=(l.map (·.1)).contains s)∧Below w.heap.size w w':=by
 obtain ⟨p,c,rfl⟩:=h.slc
 have HS:=hid h;have HL:=hid h.len;have HB:=hid hb
 clear h hb
 go_enter Tryd.func74,Tryd.ntmps74
 go_wp2
 go_loopw [4,5,8] (fun v4 v5 iv wr=>∃ k:Nat,k≤l.length∧iv = .int .i64 (k:Int)∧(∀ x ∈ (l.take k).map (·.1),x ≠ s)∧Below w.heap.size w wr) (fun _ _ iv _=>l.length - (intOf iv).toNat)
 case atStart=>exact ⟨0,Nat.zero_le _,rfl,(by simp),Below.refl _ _⟩
 case round =>
  obtain ⟨k,hk,rfl,hm,hbr⟩:=hrel
  by_cases hlt:k<l.length
  ·obtain ⟨b0,off,rfl,hR,hcells⟩:=bind_at HS.out (by omega:0<l.length)
   obtain ⟨c0,c1⟩:=hcells k hlt
   have d0:=(hbr.cell (p:=⟨b0,off+k*2,none⟩) hR).trans c0
   have d1:=(hbr.cell (p:=⟨b0,off+k*2+1,none⟩) hR).trans c1
   have HBC:=hid ((hbr.cell (p:=⟨b,0,none⟩) (cell_size HB.out)).trans HB.out)
   have HMEM:=hid (show l[k] ∈ l from List.getElem_mem _)
   have HTK:=hid (show l.take (k+1)=l.take k++[l[k]] by simp)
   have HLT:=hid hlt;have HBR:=hid hbr;have HM:=hid hm
   clear hcells c0 c1 hR hbr hm
   generalize l[k]=f at *
   obtain ⟨fs,fz⟩:=f
   dsimp only at d0 d1
   have HCL:=hid (clos_b fs s fz b wr HBC.out)
   by_cases hf:fs=s
   ·rw [decide_eq_true hf] at HCL
    have HF:=hid hf
    clear hf hlt
    go_wp2_with (go_at_call 58;with_reducible refine HCL.out.mono ?_;rintro e w2 ⟨rfl,hb2⟩;have HB2:=hid (HBR.out.trans (hb2.mono HBR.out.size));clear hb2)
    go_ret
    refine ⟨⟨_,rfl,?_⟩,HB2.out⟩
    rw [decide_eq_true (by omega),eq_comm,List.contains_iff_mem]
    exact List.mem_map.2 ⟨_,HMEM.out,HF.out⟩
   ·rw [decide_eq_false hf] at HCL
    have HF:=hid hf
    clear hf hlt
    go_wp2_with (go_at_call 58;with_reducible refine HCL.out.mono ?_;rintro e w2 ⟨rfl,hb2⟩;have HB2:=hid (HBR.out.trans (hb2.mono HBR.out.size));clear hb2)
    go_roundw
    case rel =>
     refine ⟨k+1,HLT.out,by rw [wrap_next HLT.out HL.out],?_,HB2.out⟩
     rw [HTK.out,List.map_append]
     intro x hx
     rcases List.mem_append.1 hx with hx | hx
     ·exact HM.out x hx
     ·simp at hx;subst hx;exact HF.out
    case measure=>exact meas_next HLT.out HL.out
  ·obtain rfl:k=l.length:=by omega
   have HR:=hid (show (l.map (·.1)).contains s=false from by
    rw [Bool.eq_false_iff]
    intro e
    rw [List.take_length] at hm
    exact hm s (List.contains_iff_mem.1 e) rfl)
   have HBR:=hid hbr
   clear hlt hbr hm
   go_wp2_with fail
   go_ret
   exact ⟨⟨_,rfl,by rw [HR.out];decide⟩,HBR.out⟩
theorem has_b (l:List (Bs × Int)) (s:Bs) (v:Value) (b:Nat) (w:World) (h:SlG kBind (·<w.heap.size) w v l) (hb:w.cell? ⟨b,0,none⟩=some (.string ⟨s.toArray⟩)) :
  Calls Tryd.prog 57 #[v,.func (.func 58) #[] #[.pointer (some ⟨b,0,none⟩)]] w fun e w'=>e = .returned (.bool ((l.map (·.1)).contains s))∧Below w.heap.size w w':=by
 have HC:=hid (idx_b l s v b w h hb)
 obtain ⟨bb,hbb⟩:∃ bb,(l.map (·.1)).contains s=bb:=⟨_,rfl⟩
 rw [hbb] at HC ⊢
 clear h hb hbb
 go_enter Tryd.func57,Tryd.ntmps57
 go_wp2_with (go_at_call 74;(with_reducible refine HC.out.mono ?_);rintro e w1 ⟨⟨z,rfl,hz⟩,hb1⟩;have HB1:=hid hb1;clear hb1)
 go_ret
 exact ⟨by first | rfl | (rw [hz];rfl),HB1.out⟩
def ShortB (l:List (Bs × Int)):Prop:=∀ b ∈ l,b.1.length≤140737488355328
theorem bindsE_step (n:Nat) (b:Bs × Int) (r:List (Bs × Int)) (had:List Bs):bindsE n had (b :: r)=if nameB b.1=false then 4 else if had.contains b.1 then 8 else if b.2<0∨(n:Int)≤b.2 then 3 else bindsE n (had++[b.1]) r:=rfl
set_option maxRecDepth 100000 in
set_option maxHeartbeats 4000000 in
theorem binds_any (l:List (Bs × Int)) (n:Nat) (v:Value) (w:World) (h:SlG kBind (·<w.heap.size) w v l) (hs:ShortB l) (hn:n≤100000) :
  Calls Tryd.prog 21 #[v,.int .i64 (n:Int)] w fun e w'=>e = .returned (.int .i64 (listE n l))∧Below w.heap.size w w':=by
 obtain ⟨p,c,rfl⟩:=h.slc
 have HS:=hid h;have HL:=hid h.len;have HSH:=hid hs
 clear h hs
 by_cases h32:32<l.length
 ·have HE:=hid (show listE n l=5 from if_pos h32)
  obtain ⟨ol,hol⟩:∃ ol,l.length=ol:=⟨_,rfl⟩
  rw [hol] at h32 ⊢
  have t1:decide (32<(ol:Int))=true:=decide_eq_true (by omega)
  have t1':32<(ol:Int):=by omega
  clear hol HL HS h32
  go_enter Tryd.func21,Tryd.ntmps21
  go_wp2_with fail
  go_ret
  exact ⟨by rw [HE.out];rfl,Below.refl _ _⟩
 have HE:=hid (show listE n l=bindsE n [] l from if_neg h32)
 obtain ⟨ol,hol⟩:∃ ol,l.length=ol:=⟨_,rfl⟩
 rw [hol] at HS h32 ⊢
 have t1:decide (32<(ol:Int))=false:=decide_eq_false (by omega)
 have t1':¬ 32<(ol:Int):=by omega
 have HO:=hid hol
 have HO32:=hid (show ol≤32 by omega)
 clear hol h32 HL
 go_enter Tryd.func21,Tryd.ntmps21
 go_wp2_with fail
 go_loopw [12] (fun iv wr=>∃ k:Nat,k≤ol∧iv = .int .i64 (k:Int)∧bindsE n [] l=bindsE n ((l.take k).map (·.1)) (l.drop k)∧Below w.heap.size w wr) (fun iv _=>ol - (intOf iv).toNat)
 case atStart=>exact ⟨0,Nat.zero_le _,rfl,rfl,Below.refl _ _⟩
 case round =>
  obtain ⟨k,hk,rfl,hm,hbr⟩:=hrel
  have HBR:=hid hbr
  by_cases hlt:k<ol
  ·have t2:decide ((k:Int)<(ol:Int))=true:=decide_eq_true (by omega)
   have hlt':k<l.length:=by rw [HO.out];exact hlt
   have hk32:(k:Int)≤32:=by have:=HO32.out;omega
   obtain ⟨b0,off,rfl,hR,hcells⟩:=bind_at HS.out (by omega:0<l.length)
   obtain ⟨c0,c1⟩:=hcells k hlt'
   have d0:=(hbr.cell (p:=⟨b0,off+k*2,none⟩) hR).trans c0
   have d1:=(hbr.cell (p:=⟨b0,off+k*2+1,none⟩) hR).trans c1
   have HM:=hid (hm.trans (by rw [List.drop_eq_getElem_cons hlt',bindsE_step]))
   have HTK:=hid (show (l.take (k+1)).map (·.1)=(l.take k).map (·.1)++[l[k].1] from by rw [show l.take (k+1)=l.take k++[l[k]] by simp,List.map_append];rfl)
   have HSH1:=HSH.out l[k] (List.getElem_mem _)
   have HCUT:=HS.out.cut k (by omega)
   have hkc:(k:Int)≤(c:Int):=by have:=HS.out.cap;omega
   have hkc':k≤c:=by omega
   have HLT:=hid hlt'
   clear hcells c0 c1 hR hm
   generalize l[k]=f at *
   obtain ⟨fs,fz⟩:=f
   dsimp only at d0 d1 HM HTK HSH1
   obtain ⟨p9,hp9⟩:∃ p9,wr.heap.size=p9:=⟨_,rfl⟩
   obtain ⟨w5,hw5⟩:∃ W,wr.alloc (.cells #[.string ⟨fs.toArray⟩,.int .i64 fz] 31)=W:=⟨_,rfl⟩
   have HB5:=hid (show Below w.heap.size w w5 from by rw [← hw5];exact hbr.alloc hbr.size _)
   have HBX:=hid (show BxL 31 p9 [.string ⟨fs.toArray⟩,.int .i64 fz] w5 from by rw [← hw5,← hp9];exact BxL.new _ _ _)
   have HNM:=hid (name_any fs w5 HSH1)
   have HCT:=hid (show ∀ W,Below w5.heap.size w5 W→Calls Tryd.prog 57 #[.slice (some ⟨b0,off,none⟩) k c,.func (.func 58) #[] #[.pointer (some ⟨p9,0,none⟩)]] W fun e w'=>e = .returned (.bool (((l.take k).map (·.1)).contains fs))∧Below W.heap.size W w' from fun W hW=>by
    have hb:=HB5.out.trans (hW.mono HB5.out.size)
    exact has_b (l.take k) fs _ p9 W (HCUT.keep fun q hq=>⟨Nat.lt_of_lt_of_le hq hb.size,hb.block q hq⟩) ((HBX.out.bel hW).at 0 rfl))
   have HBXW:=hid (show ∀ W,Below w5.heap.size w5 W→W.cell? ⟨p9,0,none⟩=some (.string ⟨fs.toArray⟩)∧W.cell? ⟨p9,1,none⟩=some (.int .i64 fz) from fun W hW=>⟨(HBX.out.bel hW).at 0 rfl,(HBX.out.bel hW).at 1 rfl⟩)
   clear HCUT hbr
   have n0:=HBX.out.at 0 rfl
   by_cases q1:nameB fs=false
   ·rw [q1] at HNM
    rw [if_pos q1] at HM
    clear q1
    go_wp2_with (go_at_call 19;(with_reducible refine HNM.out.mono ?_);rintro e w1 ⟨rfl,hb1⟩;have HB1:=hid (HB5.out.trans (hb1.mono HB5.out.size));clear hb1)
    go_ret
    exact ⟨by rw [HE.out,HM.out];rfl,HB1.out⟩
   rw [if_neg q1] at HM
   rw [Bool.not_eq_false] at q1
   rw [q1] at HNM
   clear q1
   by_cases q2:((l.take k).map (·.1)).contains fs=true
   ·rw [q2] at HCT
    rw [if_pos q2] at HM
    clear q2
    go_wp2_with (first
     | (go_at_call 19;(with_reducible refine HNM.out.mono ?_);rintro e w1 ⟨rfl,hb1⟩;have HB1:=hid hb1;clear hb1)
     | (go_at_call 57;(with_reducible refine (HCT.out _ HB1.out).mono ?_);rintro e w2 ⟨rfl,hb2⟩;have HB2:=hid (HB1.out.trans (hb2.mono HB1.out.size));clear hb2))
    go_ret
    exact ⟨by rw [HE.out,HM.out];rfl,HB5.out.trans (HB2.out.mono HB5.out.size)⟩
   rw [if_neg q2] at HM
   rw [Bool.not_eq_true] at q2
   rw [q2] at HCT
   clear q2
   by_cases q3:fz<0∨(n:Int)≤fz
   ·rw [if_pos q3] at HM
    rcases q3 with q3 | q3
    ·have f1:decide (fz<0)=true:=decide_eq_true q3
     go_wp2_with (first
      | (go_at_call 19;(with_reducible refine HNM.out.mono ?_);rintro e w1 ⟨rfl,hb1⟩;have HB1:=hid hb1;clear hb1)
      | (go_at_call 57;(with_reducible refine (HCT.out _ HB1.out).mono ?_);rintro e w2 ⟨rfl,hb2⟩;have HB2:=hid (HB1.out.trans (hb2.mono HB1.out.size));have n1:=(HBXW.out _ HB2.out).2;clear hb2))
     go_ret
     exact ⟨by rw [HE.out,HM.out];rfl,HB5.out.trans (HB2.out.mono HB5.out.size)⟩
    ·have f1:decide (fz<0)=false:=decide_eq_false (by omega)
     have f2:decide ((n:Int)≤fz)=true:=decide_eq_true q3
     go_wp2_with (first
      | (go_at_call 19;(with_reducible refine HNM.out.mono ?_);rintro e w1 ⟨rfl,hb1⟩;have HB1:=hid hb1;clear hb1)
      | (go_at_call 57;(with_reducible refine (HCT.out _ HB1.out).mono ?_);rintro e w2 ⟨rfl,hb2⟩;have HB2:=hid (HB1.out.trans (hb2.mono HB1.out.size));have n1:=(HBXW.out _ HB2.out).2;clear hb2))
     go_ret
     exact ⟨by rw [HE.out,HM.out];rfl,HB5.out.trans (HB2.out.mono HB5.out.size)⟩
   rw [if_neg q3] at HM
   have f1:decide (fz<0)=false:=decide_eq_false (by omega)
   have f2:decide ((n:Int)≤fz)=false:=decide_eq_false (by omega)
   have f2':¬ (n:Int)≤fz:=by omega
   clear q3
   go_wp2_with (first
    | (go_at_call 19;(with_reducible refine HNM.out.mono ?_);rintro e w1 ⟨rfl,hb1⟩;have HB1:=hid hb1;clear hb1)
    | (go_at_call 57;(with_reducible refine (HCT.out _ HB1.out).mono ?_);rintro e w2 ⟨rfl,hb2⟩;have HB2:=hid (HB1.out.trans (hb2.mono HB1.out.size));have n1:=(HBXW.out _ HB2.out).2;clear hb2))
   go_roundw
   case rel=>exact ⟨k+1,by omega,by go_num,by rw [HM.out,HTK.out],HB5.out.trans (HB2.out.mono HB5.out.size)⟩
   case measure=>simp [intOf];omega
  ·have eqn:ol=k:=by omega
   subst eqn
   have t2:decide ((ol:Int)<(ol:Int))=false:=decide_eq_false (by omega)
   have HM:=hid (show bindsE n [] l=0 from by rw [hm,List.drop_of_length_le (by rw [HO.out];omega)];rfl)
   clear hm hbr
   go_wp2_with fail
   go_ret
   exact ⟨by rw [HE.out,HM.out];rfl,HBR.out⟩
theorem levelsE_step (b:Bs) (r:List Bs) (had:List Bs):levelsE had (b :: r)=if nameB b=false then 4 else if had.contains b then 8 else levelsE (had++[b]) r:=rfl
theorem orE_of {a b:Int} (h:a ≠ 0):orE a b=a:=if_neg h
theorem orE_0 (b:Int):orE 0 b=b:=if_pos rfl
structure PoS (p:Po):Prop where
 lv:∀ s ∈ p.lv,s.length≤140737488355328
 ch:ShortB p.ch
 st:ShortB p.st
structure BoxP (w:World) (a b c d:Value) (p:Po) (W:World):Prop where
 bel:Below w.heap.size w W
 box:BxL 26 w.heap.size (poL a b c d p) W
theorem BoxP.mk0 (w:World) (a b c d:Value) (p:Po):BoxP w a b c d p (w.alloc (.cells (poL a b c d p).toArray 26)):=⟨(Below.refl _ _).alloc (Nat.le_refl _) _,BxL.new _ _ _⟩
theorem BoxP.on {w:World} {a b c d:Value} {p:Po} {W W':World} (h:BoxP w a b c d p W) (hb:Below W.heap.size W W'):BoxP w a b c d p W':=⟨h.bel.trans (hb.mono h.bel.size),h.box.bel hb⟩
set_option maxRecDepth 100000 in
set_option maxHeartbeats 4000000 in
theorem check_po (p:Po) (a b c d:Value) (w:World) (hp:PoV (·<w.heap.size) w a b c d p) (hs:PoS p) (hT:Bru w) :
  Calls Tryd.prog 7 #[.agg (poL a b c d p).toArray] w fun e w'=>e = .returned (.int .i64 (checkP p))∧Below w.heap.size w w':=by
 obtain ⟨pa,ca,rfl⟩:=hp.1.slc
 obtain ⟨pb,cb,rfl⟩:=hp.2.1.slc
 obtain ⟨pc,cc,rfl⟩:=hp.2.2.1.slc
 obtain ⟨pd,cd,rfl⟩:=hp.2.2.2.slc
 have HP:=hid hp;have HS:=hid hs;have HT:=hid hT
 have HO1:=hid hp.2.1.len
 obtain ⟨nl,hnl⟩:∃ nl,p.lv.length=nl:=⟨_,rfl⟩
 obtain ⟨no,hno⟩:∃ no,p.od.length=no:=⟨_,rfl⟩
 obtain ⟨nc,hnc⟩:∃ nc,p.ch.length=nc:=⟨_,rfl⟩
 obtain ⟨ns,hns⟩:∃ ns,p.st.length=ns:=⟨_,rfl⟩
 rw [hnl,hno,hnc,hns] at HP ⊢
 have HX:=hid (BoxP.mk0 w (.slice pa nl ca) (.slice pb no cb) (.slice pc nc cc) (.slice pd ns cd) p)
 have HNL:=hid hnl
 have HCK:=hid (show checkP p=if nl=0 then 4 else if 32<nl then 5 else orE (levelsE [] p.lv) (orE (latE nl p.od) (orE (listE nl p.ch) (orE (listE nl p.st) (if rangeB p then 0 else 3)))) from by
  unfold checkP
  rw [hnl]
  by_cases h0:p.lv=[]
  ·rw [if_pos h0,if_pos (by rw [← hnl,h0];rfl)]
  ·rw [if_neg h0,if_neg (fun e=>h0 (List.eq_nil_of_length_eq_zero (hnl.trans e)))])
 clear hp hs hT hnl hno hnc hns
 by_cases h0:nl=0
 ·have t0:((nl:Int) == 0)=true:=by rw [h0];rfl
  rw [if_pos h0] at HCK
  clear h0
  go_enter Tryd.func7,Tryd.ntmps7
  go_wp2_with fail
  go_ret
  exact ⟨by rw [HCK.out];rfl,HX.out.bel⟩
 rw [if_neg h0] at HCK
 have t0:((nl:Int) == 0)=false:=by rw [beq_eq_false_iff_ne];omega
 by_cases h32:32<nl
 ·have t1:decide (32<(nl:Int))=true:=decide_eq_true (by omega)
  have t1':32<(nl:Int):=by omega
  rw [if_pos h32] at HCK
  clear h0 h32
  go_enter Tryd.func7,Tryd.ntmps7
  go_wp2_with fail
  go_ret
  exact ⟨by rw [HCK.out];rfl,HX.out.bel⟩
 rw [if_neg h32] at HCK
 have t1:decide (32<(nl:Int))=false:=decide_eq_false (by omega)
 have t1':¬ 32<(nl:Int):=by omega
 have HN:=hid (show 1≤nl∧nl≤32 by omega)
 clear h0 h32
 go_enter Tryd.func7,Tryd.ntmps7
 go_upto_region 6 with fail
 obtain ⟨w1,hw1⟩:∃ W,w.alloc (.cells #[.slice pa nl ca,.slice pb no cb,.slice pc nc cc,.slice pd ns cd,.bool p.sens,.int .i64 p.steps,.int .i64 p.paths,.int .i64 p.nodes,.int .i64 p.conf] 26)=W:=⟨_,rfl⟩
 rw [hw1]
 have HX1:=hid (show BoxP w (.slice pa nl ca) (.slice pb no cb) (.slice pc nc cc) (.slice pd ns cd) p w1 from by rw [← hw1];exact HX.out)
 clear hw1 HX
 go_wp2_with fail
 go_loopw [20] (fun iv wr=>∃ k:Nat,k≤nl∧iv = .int .i64 (k:Int)∧levelsE [] p.lv=levelsE (p.lv.take k) (p.lv.drop k)∧BoxP w (.slice pa nl ca) (.slice pb no cb) (.slice pc nc cc) (.slice pd ns cd) p wr) (fun iv _=>nl - (intOf iv).toNat)
 case atStart=>exact ⟨0,Nat.zero_le _,rfl,rfl,HX1.out⟩
 case round =>
  obtain ⟨k,hk,rfl,hm,hbx⟩:=hrel
  have HX2:=hid hbx
  have n0:=hbx.box.at 0 rfl
  have n1:=hbx.box.at 1 rfl
  have n2:=hbx.box.at 2 rfl
  have n3:=hbx.box.at 3 rfl
  have n5:=hbx.box.at 5 rfl
  have n6:=hbx.box.at 6 rfl
  have n7:=hbx.box.at 7 rfl
  have n8:=hbx.box.at 8 rfl
  by_cases hlt:k<nl
  ·have t2:decide ((k:Int)<(nl:Int))=true:=decide_eq_true (by omega)
   have hlt':k<p.lv.length:=by rw [HNL.out];exact hlt
   have hk32:(k:Int)≤32:=by have:=HN.out;omega
   obtain ⟨b0,off,rfl,hR,hcells⟩:=str_at HP.out.1 (by omega:0<p.lv.length)
   have c0:=hcells k hlt'
   have d0:=(hbx.bel.cell (p:=⟨b0,off+k,none⟩) hR).trans c0
   have HM:=hid (hm.trans (by rw [List.drop_eq_getElem_cons hlt',levelsE_step]))
   have HTK:=hid (show p.lv.take (k+1)=p.lv.take k++[p.lv[k]] by simp)
   have HSH1:=hid (HS.out.lv p.lv[k] (List.getElem_mem _))
   have hkc:(k:Int)≤(ca:Int):=by have:=HP.out.1.cap;omega
   have hkc':k≤ca:=by omega
   have HCUT:=hid (HP.out.1.cut k (by omega))
   clear hcells c0 hR hm hbx
   generalize p.lv[k]=f at *
   have HNM:=hid (name_any f wr HSH1.out)
   have HCT:=hid (fun W (hW:Below wr.heap.size wr W)=>contains_any (p.lv.take k) f (.slice (some ⟨b0,off,none⟩) k ca) _ W (HCUT.out.keep fun q hq=>⟨hq,((HX2.out.on hW).bel).block q hq⟩))
   have HON:=hid (fun W (hW:Below wr.heap.size wr W)=>(HX2.out.on hW).box.at 0 rfl)
   by_cases q1:nameB f=false
   ·rw [q1] at HNM
    rw [if_pos q1] at HM
    clear q1
    go_wp2_with (go_at_call 19;(with_reducible refine HNM.out.mono ?_);rintro e w3 ⟨rfl,hb3⟩;have HB3:=hid hb3;clear hb3)
    go_ret
    exact ⟨by rw [HCK.out,HM.out];rfl,(HX2.out.on HB3.out).bel⟩
   rw [if_neg q1] at HM
   rw [Bool.not_eq_false] at q1
   rw [q1] at HNM
   clear q1
   by_cases q2:(p.lv.take k).contains f=true
   ·rw [q2] at HCT
    rw [if_pos q2] at HM
    clear q2
    go_wp2_with (first
     | (go_at_call 19;(with_reducible refine HNM.out.mono ?_);rintro e w3 ⟨rfl,hb3⟩;have HB3:=hid hb3;have m0:=HON.out _ hb3;clear hb3)
     | (go_at_call 20;(with_reducible refine (HCT.out _ HB3.out).mono ?_);rintro e w4 ⟨rfl,rfl⟩))
    go_ret
    exact ⟨by rw [HCK.out,HM.out];rfl,(HX2.out.on HB3.out).bel⟩
   rw [if_neg q2] at HM
   rw [Bool.not_eq_true] at q2
   rw [q2] at HCT
   clear q2
   go_wp2_with (first
    | (go_at_call 19;(with_reducible refine HNM.out.mono ?_);rintro e w3 ⟨rfl,hb3⟩;have HB3:=hid hb3;have m0:=HON.out _ hb3;clear hb3)
    | (go_at_call 20;(with_reducible refine (HCT.out _ HB3.out).mono ?_);rintro e w4 ⟨rfl,rfl⟩))
   go_roundw
   case rel=>exact ⟨k+1,by omega,by go_num,by rw [HM.out,HTK.out],HX2.out.on HB3.out⟩
   case measure=>simp [intOf];omega
  ·have eqn:nl=k:=by omega
   subst eqn
   have t2:decide ((nl:Int)<(nl:Int))=false:=decide_eq_false (by omega)
   have HM:=hid (show levelsE [] p.lv=0 from by rw [hm,List.drop_of_length_le (by rw [HNL.out];omega)];rfl)
   clear hm hbx
   rw [HM.out,orE_0] at HCK
   have HLIFT:=hid (fun W (hW:Below wr.heap.size wr W)=>(HX2.out.on hW).bel)
   have HNEW:=hid (new_any nl p.od (.slice pb no cb) wr (HP.out.2.1.keep fun q hq=>⟨Nat.lt_of_lt_of_le hq HX2.out.bel.size,HX2.out.bel.block q hq⟩) (by have:=HN.out;omega) (HT.out.keep HX2.out.bel))
   have HBC:=hid (fun W (hW:Below wr.heap.size wr W)=>binds_any p.ch nl (.slice pc nc cc) W (HP.out.2.2.1.keep fun q hq=>⟨Nat.lt_of_lt_of_le hq (HLIFT.out W hW).size,(HLIFT.out W hW).block q hq⟩) HS.out.ch (by have:=HN.out;omega))
   have HBS:=hid (fun W (hW:Below wr.heap.size wr W)=>binds_any p.st nl (.slice pd ns cd) W (HP.out.2.2.2.keep fun q hq=>⟨Nat.lt_of_lt_of_le hq (HLIFT.out W hW).size,(HLIFT.out W hW).block q hq⟩) HS.out.st (by have:=HN.out;omega))
   obtain ⟨eL,hL⟩:∃ e,latE nl p.od=e:=⟨_,rfl⟩
   obtain ⟨eC,hC⟩:∃ e,listE nl p.ch=e:=⟨_,rfl⟩
   obtain ⟨eS,hS⟩:∃ e,listE nl p.st=e:=⟨_,rfl⟩
   rw [hL] at HNEW HCK
   rw [hC] at HBC HCK
   rw [hS] at HBS HCK
   clear hL hC hS
   by_cases zL:¬ eL=0
   ·have tL:(eL != 0)=true:=by rw [bne_iff_ne];exact zL
    rw [orE_of zL] at HCK
    clear zL
    go_wp2_with (go_at_call 9;(with_reducible refine HNEW.out.mono ?_);rintro e w5 ⟨⟨pp,rfl⟩,hb5⟩;have HB5:=hid hb5;have HX5:=hid (HX2.out.on hb5);have m0:=HX5.out.box.at 0 rfl;have m2:=HX5.out.box.at 2 rfl;have m3:=HX5.out.box.at 3 rfl;have m5:=HX5.out.box.at 5 rfl;have m6:=HX5.out.box.at 6 rfl;have m7:=HX5.out.box.at 7 rfl;have m8:=HX5.out.box.at 8 rfl;clear hb5)
    go_ret
    exact ⟨by rw [HCK.out];rfl,HX5.out.bel⟩
   rw [Classical.not_not] at zL
   subst zL
   rw [orE_0] at HCK
   by_cases zC:¬ eC=0
   ·have tC:(eC != 0)=true:=by rw [bne_iff_ne];exact zC
    rw [orE_of zC] at HCK
    clear zC
    go_wp2_with (first | (go_at_call 9;(with_reducible refine HNEW.out.mono ?_);rintro e w5 ⟨⟨pp,rfl⟩,hb5⟩;have HB5:=hid hb5;have HX5:=hid (HX2.out.on hb5);have m0:=HX5.out.box.at 0 rfl;have m2:=HX5.out.box.at 2 rfl;have m3:=HX5.out.box.at 3 rfl;have m5:=HX5.out.box.at 5 rfl;have m6:=HX5.out.box.at 6 rfl;have m7:=HX5.out.box.at 7 rfl;have m8:=HX5.out.box.at 8 rfl;clear hb5) | (go_at_call 21;(with_reducible refine (HBC.out _ HB5.out).mono ?_);rintro e w6 ⟨rfl,hb6⟩;have HB6:=hid (HB5.out.trans (hb6.mono HB5.out.size));have HX6:=hid (HX5.out.on hb6);have q0:=HX6.out.box.at 0 rfl;have q3:=HX6.out.box.at 3 rfl;have q5:=HX6.out.box.at 5 rfl;have q6:=HX6.out.box.at 6 rfl;have q7:=HX6.out.box.at 7 rfl;have q8:=HX6.out.box.at 8 rfl;clear hb6))
    go_ret
    exact ⟨by rw [HCK.out];rfl,HX6.out.bel⟩
   rw [Classical.not_not] at zC
   subst zC
   rw [orE_0] at HCK
   by_cases zS:¬ eS=0
   ·have tS:(eS != 0)=true:=by rw [bne_iff_ne];exact zS
    rw [orE_of zS] at HCK
    clear zS
    go_wp2_with (first | (go_at_call 9;(with_reducible refine HNEW.out.mono ?_);rintro e w5 ⟨⟨pp,rfl⟩,hb5⟩;have HB5:=hid hb5;have HX5:=hid (HX2.out.on hb5);have m0:=HX5.out.box.at 0 rfl;have m2:=HX5.out.box.at 2 rfl;have m3:=HX5.out.box.at 3 rfl;have m5:=HX5.out.box.at 5 rfl;have m6:=HX5.out.box.at 6 rfl;have m7:=HX5.out.box.at 7 rfl;have m8:=HX5.out.box.at 8 rfl;clear hb5) | (go_at_call 21;(with_reducible refine (HBC.out _ HB5.out).mono ?_);rintro e w6 ⟨rfl,hb6⟩;have HB6:=hid (HB5.out.trans (hb6.mono HB5.out.size));have HX6:=hid (HX5.out.on hb6);have q0:=HX6.out.box.at 0 rfl;have q3:=HX6.out.box.at 3 rfl;have q5:=HX6.out.box.at 5 rfl;have q6:=HX6.out.box.at 6 rfl;have q7:=HX6.out.box.at 7 rfl;have q8:=HX6.out.box.at 8 rfl;clear hb6) | (go_at_call 21;(with_reducible refine (HBS.out _ HB6.out).mono ?_);rintro e w7 ⟨rfl,hb7⟩;have HX7:=hid (HX6.out.on hb7);have r5:=HX7.out.box.at 5 rfl;have r6:=HX7.out.box.at 6 rfl;have r7:=HX7.out.box.at 7 rfl;have r8:=HX7.out.box.at 8 rfl;clear hb7))
    go_ret
    exact ⟨by rw [HCK.out];rfl,HX7.out.bel⟩
   rw [Classical.not_not] at zS
   subst zS
   rw [orE_0] at HCK
   have HRG:=hid (show rangeB p=(decide (1≤p.steps) && decide (p.steps≤65536) && (decide (1≤p.paths) && decide (p.paths≤4096)) && (decide (0≤p.nodes) && decide (p.nodes≤1048576)) && (decide (0≤p.conf) && decide (p.conf≤1099511627776))) from rfl)
   obtain ⟨s1,hs1⟩:∃ x,p.steps=x:=⟨_,rfl⟩
   obtain ⟨s2,hs2⟩:∃ x,p.paths=x:=⟨_,rfl⟩
   obtain ⟨s3,hs3⟩:∃ x,p.nodes=x:=⟨_,rfl⟩
   obtain ⟨s4,hs4⟩:∃ x,p.conf=x:=⟨_,rfl⟩
   rw [hs1,hs2,hs3,hs4] at HRG
   rw [hs1] at n5
   rw [hs2] at n6
   rw [hs3] at n7
   rw [hs4] at n8
   by_cases g0:s1<1
   ·have f0:decide (s1<1)=true:=decide_eq_true g0
    have HR:=hid (show checkP p=3 from by rw [HCK.out,if_neg];intro e;rw [HRG.out] at e;simp only [Bool.and_eq_true,decide_eq_true_eq] at e;omega)
    clear g0
    go_wp2_with (first | (go_at_call 9;(with_reducible refine HNEW.out.mono ?_);rintro e w5 ⟨⟨pp,rfl⟩,hb5⟩;have HB5:=hid hb5;have HX5:=hid (HX2.out.on hb5);have m0:=HX5.out.box.at 0 rfl;have m2:=HX5.out.box.at 2 rfl;have m3:=HX5.out.box.at 3 rfl;have m5:=HX5.out.box.at 5 rfl;have m6:=HX5.out.box.at 6 rfl;have m7:=HX5.out.box.at 7 rfl;have m8:=HX5.out.box.at 8 rfl;clear hb5) | (go_at_call 21;(with_reducible refine (HBC.out _ HB5.out).mono ?_);rintro e w6 ⟨rfl,hb6⟩;have HB6:=hid (HB5.out.trans (hb6.mono HB5.out.size));have HX6:=hid (HX5.out.on hb6);have q0:=HX6.out.box.at 0 rfl;have q3:=HX6.out.box.at 3 rfl;have q5:=HX6.out.box.at 5 rfl;have q6:=HX6.out.box.at 6 rfl;have q7:=HX6.out.box.at 7 rfl;have q8:=HX6.out.box.at 8 rfl;clear hb6) | (go_at_call 21;(with_reducible refine (HBS.out _ HB6.out).mono ?_);rintro e w7 ⟨rfl,hb7⟩;have HX7:=hid (HX6.out.on hb7);have r5:=HX7.out.box.at 5 rfl;have r6:=HX7.out.box.at 6 rfl;have r7:=HX7.out.box.at 7 rfl;have r8:=HX7.out.box.at 8 rfl;clear hb7))
    go_ret
    exact ⟨by rw [HR.out];rfl,HX7.out.bel⟩
   have f0:decide (s1<1)=false:=decide_eq_false g0
   have f0':¬ (s1<1):=g0
   by_cases g1:65536<s1
   ·have f1:decide (65536<s1)=true:=decide_eq_true g1
    have HR:=hid (show checkP p=3 from by rw [HCK.out,if_neg];intro e;rw [HRG.out] at e;simp only [Bool.and_eq_true,decide_eq_true_eq] at e;omega)
    clear g0 g1
    go_wp2_with (first | (go_at_call 9;(with_reducible refine HNEW.out.mono ?_);rintro e w5 ⟨⟨pp,rfl⟩,hb5⟩;have HB5:=hid hb5;have HX5:=hid (HX2.out.on hb5);have m0:=HX5.out.box.at 0 rfl;have m2:=HX5.out.box.at 2 rfl;have m3:=HX5.out.box.at 3 rfl;have m5:=HX5.out.box.at 5 rfl;have m6:=HX5.out.box.at 6 rfl;have m7:=HX5.out.box.at 7 rfl;have m8:=HX5.out.box.at 8 rfl;clear hb5) | (go_at_call 21;(with_reducible refine (HBC.out _ HB5.out).mono ?_);rintro e w6 ⟨rfl,hb6⟩;have HB6:=hid (HB5.out.trans (hb6.mono HB5.out.size));have HX6:=hid (HX5.out.on hb6);have q0:=HX6.out.box.at 0 rfl;have q3:=HX6.out.box.at 3 rfl;have q5:=HX6.out.box.at 5 rfl;have q6:=HX6.out.box.at 6 rfl;have q7:=HX6.out.box.at 7 rfl;have q8:=HX6.out.box.at 8 rfl;clear hb6) | (go_at_call 21;(with_reducible refine (HBS.out _ HB6.out).mono ?_);rintro e w7 ⟨rfl,hb7⟩;have HX7:=hid (HX6.out.on hb7);have r5:=HX7.out.box.at 5 rfl;have r6:=HX7.out.box.at 6 rfl;have r7:=HX7.out.box.at 7 rfl;have r8:=HX7.out.box.at 8 rfl;clear hb7))
    go_ret
    exact ⟨by rw [HR.out];rfl,HX7.out.bel⟩
   have f1:decide (65536<s1)=false:=decide_eq_false g1
   have f1':¬ (65536<s1):=g1
   by_cases g2:s2<1
   ·have f2:decide (s2<1)=true:=decide_eq_true g2
    have HR:=hid (show checkP p=3 from by rw [HCK.out,if_neg];intro e;rw [HRG.out] at e;simp only [Bool.and_eq_true,decide_eq_true_eq] at e;omega)
    clear g0 g1 g2
    go_wp2_with (first | (go_at_call 9;(with_reducible refine HNEW.out.mono ?_);rintro e w5 ⟨⟨pp,rfl⟩,hb5⟩;have HB5:=hid hb5;have HX5:=hid (HX2.out.on hb5);have m0:=HX5.out.box.at 0 rfl;have m2:=HX5.out.box.at 2 rfl;have m3:=HX5.out.box.at 3 rfl;have m5:=HX5.out.box.at 5 rfl;have m6:=HX5.out.box.at 6 rfl;have m7:=HX5.out.box.at 7 rfl;have m8:=HX5.out.box.at 8 rfl;clear hb5) | (go_at_call 21;(with_reducible refine (HBC.out _ HB5.out).mono ?_);rintro e w6 ⟨rfl,hb6⟩;have HB6:=hid (HB5.out.trans (hb6.mono HB5.out.size));have HX6:=hid (HX5.out.on hb6);have q0:=HX6.out.box.at 0 rfl;have q3:=HX6.out.box.at 3 rfl;have q5:=HX6.out.box.at 5 rfl;have q6:=HX6.out.box.at 6 rfl;have q7:=HX6.out.box.at 7 rfl;have q8:=HX6.out.box.at 8 rfl;clear hb6) | (go_at_call 21;(with_reducible refine (HBS.out _ HB6.out).mono ?_);rintro e w7 ⟨rfl,hb7⟩;have HX7:=hid (HX6.out.on hb7);have r5:=HX7.out.box.at 5 rfl;have r6:=HX7.out.box.at 6 rfl;have r7:=HX7.out.box.at 7 rfl;have r8:=HX7.out.box.at 8 rfl;clear hb7))
    go_ret
    exact ⟨by rw [HR.out];rfl,HX7.out.bel⟩
   have f2:decide (s2<1)=false:=decide_eq_false g2
   have f2':¬ (s2<1):=g2
   by_cases g3:4096<s2
   ·have f3:decide (4096<s2)=true:=decide_eq_true g3
    have HR:=hid (show checkP p=3 from by rw [HCK.out,if_neg];intro e;rw [HRG.out] at e;simp only [Bool.and_eq_true,decide_eq_true_eq] at e;omega)
    clear g0 g1 g2 g3
    go_wp2_with (first | (go_at_call 9;(with_reducible refine HNEW.out.mono ?_);rintro e w5 ⟨⟨pp,rfl⟩,hb5⟩;have HB5:=hid hb5;have HX5:=hid (HX2.out.on hb5);have m0:=HX5.out.box.at 0 rfl;have m2:=HX5.out.box.at 2 rfl;have m3:=HX5.out.box.at 3 rfl;have m5:=HX5.out.box.at 5 rfl;have m6:=HX5.out.box.at 6 rfl;have m7:=HX5.out.box.at 7 rfl;have m8:=HX5.out.box.at 8 rfl;clear hb5) | (go_at_call 21;(with_reducible refine (HBC.out _ HB5.out).mono ?_);rintro e w6 ⟨rfl,hb6⟩;have HB6:=hid (HB5.out.trans (hb6.mono HB5.out.size));have HX6:=hid (HX5.out.on hb6);have q0:=HX6.out.box.at 0 rfl;have q3:=HX6.out.box.at 3 rfl;have q5:=HX6.out.box.at 5 rfl;have q6:=HX6.out.box.at 6 rfl;have q7:=HX6.out.box.at 7 rfl;have q8:=HX6.out.box.at 8 rfl;clear hb6) | (go_at_call 21;(with_reducible refine (HBS.out _ HB6.out).mono ?_);rintro e w7 ⟨rfl,hb7⟩;have HX7:=hid (HX6.out.on hb7);have r5:=HX7.out.box.at 5 rfl;have r6:=HX7.out.box.at 6 rfl;have r7:=HX7.out.box.at 7 rfl;have r8:=HX7.out.box.at 8 rfl;clear hb7))
    go_ret
    exact ⟨by rw [HR.out];rfl,HX7.out.bel⟩
   have f3:decide (4096<s2)=false:=decide_eq_false g3
   have f3':¬ (4096<s2):=g3
   by_cases g4:s3<0
   ·have f4:decide (s3<0)=true:=decide_eq_true g4
    have HR:=hid (show checkP p=3 from by rw [HCK.out,if_neg];intro e;rw [HRG.out] at e;simp only [Bool.and_eq_true,decide_eq_true_eq] at e;omega)
    clear g0 g1 g2 g3 g4
    go_wp2_with (first | (go_at_call 9;(with_reducible refine HNEW.out.mono ?_);rintro e w5 ⟨⟨pp,rfl⟩,hb5⟩;have HB5:=hid hb5;have HX5:=hid (HX2.out.on hb5);have m0:=HX5.out.box.at 0 rfl;have m2:=HX5.out.box.at 2 rfl;have m3:=HX5.out.box.at 3 rfl;have m5:=HX5.out.box.at 5 rfl;have m6:=HX5.out.box.at 6 rfl;have m7:=HX5.out.box.at 7 rfl;have m8:=HX5.out.box.at 8 rfl;clear hb5) | (go_at_call 21;(with_reducible refine (HBC.out _ HB5.out).mono ?_);rintro e w6 ⟨rfl,hb6⟩;have HB6:=hid (HB5.out.trans (hb6.mono HB5.out.size));have HX6:=hid (HX5.out.on hb6);have q0:=HX6.out.box.at 0 rfl;have q3:=HX6.out.box.at 3 rfl;have q5:=HX6.out.box.at 5 rfl;have q6:=HX6.out.box.at 6 rfl;have q7:=HX6.out.box.at 7 rfl;have q8:=HX6.out.box.at 8 rfl;clear hb6) | (go_at_call 21;(with_reducible refine (HBS.out _ HB6.out).mono ?_);rintro e w7 ⟨rfl,hb7⟩;have HX7:=hid (HX6.out.on hb7);have r5:=HX7.out.box.at 5 rfl;have r6:=HX7.out.box.at 6 rfl;have r7:=HX7.out.box.at 7 rfl;have r8:=HX7.out.box.at 8 rfl;clear hb7))
    go_ret
    exact ⟨by rw [HR.out];rfl,HX7.out.bel⟩
   have f4:decide (s3<0)=false:=decide_eq_false g4
   have f4':¬ (s3<0):=g4
   by_cases g5:1048576<s3
   ·have f5:decide (1048576<s3)=true:=decide_eq_true g5
    have HR:=hid (show checkP p=3 from by rw [HCK.out,if_neg];intro e;rw [HRG.out] at e;simp only [Bool.and_eq_true,decide_eq_true_eq] at e;omega)
    clear g0 g1 g2 g3 g4 g5
    go_wp2_with (first | (go_at_call 9;(with_reducible refine HNEW.out.mono ?_);rintro e w5 ⟨⟨pp,rfl⟩,hb5⟩;have HB5:=hid hb5;have HX5:=hid (HX2.out.on hb5);have m0:=HX5.out.box.at 0 rfl;have m2:=HX5.out.box.at 2 rfl;have m3:=HX5.out.box.at 3 rfl;have m5:=HX5.out.box.at 5 rfl;have m6:=HX5.out.box.at 6 rfl;have m7:=HX5.out.box.at 7 rfl;have m8:=HX5.out.box.at 8 rfl;clear hb5) | (go_at_call 21;(with_reducible refine (HBC.out _ HB5.out).mono ?_);rintro e w6 ⟨rfl,hb6⟩;have HB6:=hid (HB5.out.trans (hb6.mono HB5.out.size));have HX6:=hid (HX5.out.on hb6);have q0:=HX6.out.box.at 0 rfl;have q3:=HX6.out.box.at 3 rfl;have q5:=HX6.out.box.at 5 rfl;have q6:=HX6.out.box.at 6 rfl;have q7:=HX6.out.box.at 7 rfl;have q8:=HX6.out.box.at 8 rfl;clear hb6) | (go_at_call 21;(with_reducible refine (HBS.out _ HB6.out).mono ?_);rintro e w7 ⟨rfl,hb7⟩;have HX7:=hid (HX6.out.on hb7);have r5:=HX7.out.box.at 5 rfl;have r6:=HX7.out.box.at 6 rfl;have r7:=HX7.out.box.at 7 rfl;have r8:=HX7.out.box.at 8 rfl;clear hb7))
    go_ret
    exact ⟨by rw [HR.out];rfl,HX7.out.bel⟩
   have f5:decide (1048576<s3)=false:=decide_eq_false g5
   have f5':¬ (1048576<s3):=g5
   by_cases g6:s4<0
   ·have f6:decide (s4<0)=true:=decide_eq_true g6
    have HR:=hid (show checkP p=3 from by rw [HCK.out,if_neg];intro e;rw [HRG.out] at e;simp only [Bool.and_eq_true,decide_eq_true_eq] at e;omega)
    clear g0 g1 g2 g3 g4 g5 g6
    go_wp2_with (first | (go_at_call 9;(with_reducible refine HNEW.out.mono ?_);rintro e w5 ⟨⟨pp,rfl⟩,hb5⟩;have HB5:=hid hb5;have HX5:=hid (HX2.out.on hb5);have m0:=HX5.out.box.at 0 rfl;have m2:=HX5.out.box.at 2 rfl;have m3:=HX5.out.box.at 3 rfl;have m5:=HX5.out.box.at 5 rfl;have m6:=HX5.out.box.at 6 rfl;have m7:=HX5.out.box.at 7 rfl;have m8:=HX5.out.box.at 8 rfl;clear hb5) | (go_at_call 21;(with_reducible refine (HBC.out _ HB5.out).mono ?_);rintro e w6 ⟨rfl,hb6⟩;have HB6:=hid (HB5.out.trans (hb6.mono HB5.out.size));have HX6:=hid (HX5.out.on hb6);have q0:=HX6.out.box.at 0 rfl;have q3:=HX6.out.box.at 3 rfl;have q5:=HX6.out.box.at 5 rfl;have q6:=HX6.out.box.at 6 rfl;have q7:=HX6.out.box.at 7 rfl;have q8:=HX6.out.box.at 8 rfl;clear hb6) | (go_at_call 21;(with_reducible refine (HBS.out _ HB6.out).mono ?_);rintro e w7 ⟨rfl,hb7⟩;have HX7:=hid (HX6.out.on hb7);have r5:=HX7.out.box.at 5 rfl;have r6:=HX7.out.box.at 6 rfl;have r7:=HX7.out.box.at 7 rfl;have r8:=HX7.out.box.at 8 rfl;clear hb7))
    go_ret
    exact ⟨by rw [HR.out];rfl,HX7.out.bel⟩
   have f6:decide (s4<0)=false:=decide_eq_false g6
   have f6':¬ (s4<0):=g6
   by_cases g7:1099511627776<s4
   ·have f7:decide (1099511627776<s4)=true:=decide_eq_true g7
    have HR:=hid (show checkP p=3 from by rw [HCK.out,if_neg];intro e;rw [HRG.out] at e;simp only [Bool.and_eq_true,decide_eq_true_eq] at e;omega)
    clear g0 g1 g2 g3 g4 g5 g6 g7
    go_wp2_with (first | (go_at_call 9;(with_reducible refine HNEW.out.mono ?_);rintro e w5 ⟨⟨pp,rfl⟩,hb5⟩;have HB5:=hid hb5;have HX5:=hid (HX2.out.on hb5);have m0:=HX5.out.box.at 0 rfl;have m2:=HX5.out.box.at 2 rfl;have m3:=HX5.out.box.at 3 rfl;have m5:=HX5.out.box.at 5 rfl;have m6:=HX5.out.box.at 6 rfl;have m7:=HX5.out.box.at 7 rfl;have m8:=HX5.out.box.at 8 rfl;clear hb5) | (go_at_call 21;(with_reducible refine (HBC.out _ HB5.out).mono ?_);rintro e w6 ⟨rfl,hb6⟩;have HB6:=hid (HB5.out.trans (hb6.mono HB5.out.size));have HX6:=hid (HX5.out.on hb6);have q0:=HX6.out.box.at 0 rfl;have q3:=HX6.out.box.at 3 rfl;have q5:=HX6.out.box.at 5 rfl;have q6:=HX6.out.box.at 6 rfl;have q7:=HX6.out.box.at 7 rfl;have q8:=HX6.out.box.at 8 rfl;clear hb6) | (go_at_call 21;(with_reducible refine (HBS.out _ HB6.out).mono ?_);rintro e w7 ⟨rfl,hb7⟩;have HX7:=hid (HX6.out.on hb7);have r5:=HX7.out.box.at 5 rfl;have r6:=HX7.out.box.at 6 rfl;have r7:=HX7.out.box.at 7 rfl;have r8:=HX7.out.box.at 8 rfl;clear hb7))
    go_ret
    exact ⟨by rw [HR.out];rfl,HX7.out.bel⟩
   have f7:decide (1099511627776<s4)=false:=decide_eq_false g7
   have f7':¬ (1099511627776<s4):=g7
   have HR:=hid (show checkP p=0 from by rw [HCK.out,if_pos];rw [HRG.out];simp only [Bool.and_eq_true,decide_eq_true_eq];omega)
   clear g0 g1 g2 g3 g4 g5 g6 g7
   go_wp2_with (first | (go_at_call 9;(with_reducible refine HNEW.out.mono ?_);rintro e w5 ⟨⟨pp,rfl⟩,hb5⟩;have HB5:=hid hb5;have HX5:=hid (HX2.out.on hb5);have m0:=HX5.out.box.at 0 rfl;have m2:=HX5.out.box.at 2 rfl;have m3:=HX5.out.box.at 3 rfl;have m5:=HX5.out.box.at 5 rfl;have m6:=HX5.out.box.at 6 rfl;have m7:=HX5.out.box.at 7 rfl;have m8:=HX5.out.box.at 8 rfl;clear hb5) | (go_at_call 21;(with_reducible refine (HBC.out _ HB5.out).mono ?_);rintro e w6 ⟨rfl,hb6⟩;have HB6:=hid (HB5.out.trans (hb6.mono HB5.out.size));have HX6:=hid (HX5.out.on hb6);have q0:=HX6.out.box.at 0 rfl;have q3:=HX6.out.box.at 3 rfl;have q5:=HX6.out.box.at 5 rfl;have q6:=HX6.out.box.at 6 rfl;have q7:=HX6.out.box.at 7 rfl;have q8:=HX6.out.box.at 8 rfl;clear hb6) | (go_at_call 21;(with_reducible refine (HBS.out _ HB6.out).mono ?_);rintro e w7 ⟨rfl,hb7⟩;have HX7:=hid (HX6.out.on hb7);have r5:=HX7.out.box.at 5 rfl;have r6:=HX7.out.box.at 6 rfl;have r7:=HX7.out.box.at 7 rfl;have r8:=HX7.out.box.at 8 rfl;clear hb7))
   go_ret
   exact ⟨by rw [HR.out];rfl,HX7.out.bel⟩
end Go.Proofs.YtbijamcoibonkaaDoor
