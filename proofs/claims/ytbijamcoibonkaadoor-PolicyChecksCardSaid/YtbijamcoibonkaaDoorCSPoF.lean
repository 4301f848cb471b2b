/-
 Policies: the kinds of lines, in order.
-/
import Derived.Test.YtbijamcoibonkaaDoorCSPoE
namespace Go.Proofs.YtbijamcoibonkaaDoor
set_option linter.unusedSimpArgs false
set_option linter.unusedVariables false
open Go.RowKit Go.Shelf
attribute [local go_sem] Oper.semAt_some
def kindF:List Nat:=[120,123,125,127,128,130,132,133,134]
def KindT (w:World):Prop:=∃ kb ko c,w.cell? ⟨0,0,none⟩=some (.slice (some ⟨kb,ko,none⟩) 9 c)∧∀ i,i<9 →
 w.cell? ⟨kb,ko+i*3,none⟩=some (.string ⟨(kindL.getD i ([],false)).1.toArray⟩)∧w.cell? ⟨kb,ko+i*3+1,none⟩=some (.bool (kindL.getD i ([],false)).2)∧w.cell? ⟨kb,ko+i*3+2,none⟩=some (.func (.func (kindF.getD i 0)) #[] #[])
theorem KindT.keep {w w':World} (h:KindT w) (hb:Below w.heap.size w w'):KindT w':=by
 obtain ⟨kb,ko,c,h1,h2⟩:=h
 refine ⟨kb,ko,c,(hb.cell (World.block_lt_of_cell? _ _ h1)).trans h1,fun i hi=>?_⟩
 obtain ⟨a1,a2,a3⟩:=h2 i hi
 exact ⟨(hb.cell (World.block_lt_of_cell? _ _ a1)).trans a1,(hb.cell (World.block_lt_of_cell? _ _ a2)).trans a2,(hb.cell (World.block_lt_of_cell? _ _ a3)).trans a3⟩
def stepV:Option Nat→Int
 | none => -1
 | some k=>(k:Int)
set_option maxRecDepth 100000 in
set_option maxHeartbeats 4000000 in
theorem step_po (word:Bs) (a:Nat) (w:World) (ha:a≤9) (hT:KindT w):Calls Tryd.prog 52 #[.string ⟨word.toArray⟩,.int .i64 (a:Int),.bool false] w fun e w'=>e = .returned (.int .i64 (stepV (stepP word a)))∧w'=w:=by
 obtain ⟨kb,ko,c,h1,h2⟩:=hT
 have H2:=hid h2
 clear h2
 go_enter Tryd.func52,Tryd.ntmps52
 go_wp2_with fail
 go_loopw [7] (fun v W=>∃ k:Nat,a≤k∧k≤9∧v = .int .i64 (k:Int)∧stepG word a k (9 - k)=stepP word a∧W=w) (fun v _=>9 - (intOf v).toNat)
 case atStart=>exact ⟨a,Nat.le_refl _,ha,rfl,rfl,rfl⟩
 case round =>
  obtain ⟨k,hk,hk9,rfl,hm,hw⟩:=hrel
  subst hw
  by_cases hlt:k<9
  ·have t1:decide ((k:Int)<9)=true:=decide_eq_true (by omega)
   have t1':(k:Int)<9:=by omega
   obtain ⟨c0,c1,c2⟩:=H2.out k hlt
   obtain ⟨m,hmm⟩:∃ m,9 - k=m+1:=⟨8 - k,by omega⟩
   rw [hmm] at hm
   unfold stepG at hm
   obtain ⟨kw,hkw⟩:∃ x,(kindL.getD k ([],false)).1=x:=⟨_,rfl⟩
   obtain ⟨av,hav⟩:∃ x,(kindL.getD k ([],false)).2=x:=⟨_,rfl⟩
   rw [hkw] at c0 hm
   rw [hav] at c1 hm
   have HM:=hid hm
   clear hm hkw hav c2
   by_cases hE:kw=word
   ·cases av with
    | true =>
     have hA:true=true:=rfl
     by_cases hG:a<k
     ·have tG:decide ((a:Int)<(k:Int))=true:=decide_eq_true (by omega)
      have tG':(a:Int)<(k:Int):=by omega
      have tGn:decide (a<k)=true:=decide_eq_true hG
      have tE:(kw == word)=true:=by rw [hE];exact beq_self_eq_true _
      have HR:=hid (show stepP word a=some k from by rw [← HM.out,if_pos ⟨hE,.inl hA⟩])
      clear hE hG hA
      go_wp2_with fail
      go_ret
      exact ⟨by rw [HR.out];rfl,rfl⟩
     ·have tG:decide ((a:Int)<(k:Int))=false:=decide_eq_false (by omega)
      have tG':¬ (a:Int)<(k:Int):=by omega
      have tGn:decide (a<k)=false:=decide_eq_false hG
      have tE:(kw == word)=true:=by rw [hE];exact beq_self_eq_true _
      have HR:=hid (show stepP word a=some k from by rw [← HM.out,if_pos ⟨hE,.inl hA⟩])
      clear hE hG hA
      go_wp2_with fail
      go_ret
      exact ⟨by rw [HR.out];rfl,rfl⟩
    | false =>
     have hA:false=false:=rfl
     by_cases hG:a<k
     ·have tG:decide ((a:Int)<(k:Int))=true:=decide_eq_true (by omega)
      have tG':(a:Int)<(k:Int):=by omega
      have tGn:decide (a<k)=true:=decide_eq_true hG
      have tE:(kw == word)=true:=by rw [hE];exact beq_self_eq_true _
      have HR:=hid (show stepP word a=some k from by rw [← HM.out,if_pos ⟨hE,.inr hG⟩])
      clear hE hG hA
      go_wp2_with fail
      go_ret
      exact ⟨by rw [HR.out];rfl,rfl⟩
     ·have tG:decide ((a:Int)<(k:Int))=false:=decide_eq_false (by omega)
      have tG':¬ (a:Int)<(k:Int):=by omega
      have tGn:decide (a<k)=false:=decide_eq_false hG
      have tE:(kw == word)=true:=by rw [hE];exact beq_self_eq_true _
      have HR:=hid (show stepG word a (k+1) m=stepP word a from by rw [← HM.out,if_neg (fun e=>by rcases e.2 with e | e;rw [hA] at e;cases e;exact hG e),if_neg (fun e=>hG e.2)])
      clear hE hG hA
      go_wp2_with fail
      go_roundw
      case rel=>exact ⟨k+1,by omega,by omega,by go_num,by rw [← HR.out];congr 1;omega,by trivial⟩
      case measure=>simp [intOf];omega
   ·cases av with
    | true =>
     have hA:true=true:=rfl
     by_cases hG:a<k
     ·have tG:decide ((a:Int)<(k:Int))=true:=decide_eq_true (by omega)
      have tG':(a:Int)<(k:Int):=by omega
      have tGn:decide (a<k)=true:=decide_eq_true hG
      have tE:(kw == word)=false:=beq_eq_false_iff_ne.2 hE
      have HR:=hid (show stepG word a (k+1) m=stepP word a from by rw [← HM.out,if_neg (fun e=>hE e.1),if_neg (fun e=>by rw [hA] at e;cases e.1)])
      clear hE hG hA
      go_wp2_with fail
      go_roundw
      case rel=>exact ⟨k+1,by omega,by omega,by go_num,by rw [← HR.out];congr 1;omega,by trivial⟩
      case measure=>simp [intOf];omega
     ·have tG:decide ((a:Int)<(k:Int))=false:=decide_eq_false (by omega)
      have tG':¬ (a:Int)<(k:Int):=by omega
      have tGn:decide (a<k)=false:=decide_eq_false hG
      have tE:(kw == word)=false:=beq_eq_false_iff_ne.2 hE
      have HR:=hid (show stepG word a (k+1) m=stepP word a from by rw [← HM.out,if_neg (fun e=>hE e.1),if_neg (fun e=>by rw [hA] at e;cases e.1)])
      clear hE hG hA
      go_wp2_with fail
      go_roundw
      case rel=>exact ⟨k+1,by omega,by omega,by go_num,by rw [← HR.out];congr 1;omega,by trivial⟩
      case measure=>simp [intOf];omega
    | false =>
     have hA:false=false:=rfl
     by_cases hG:a<k
     ·have tG:decide ((a:Int)<(k:Int))=true:=decide_eq_true (by omega)
      have tG':(a:Int)<(k:Int):=by omega
      have tGn:decide (a<k)=true:=decide_eq_true hG
      have tE:(kw == word)=false:=beq_eq_false_iff_ne.2 hE
      have HR:=hid (show stepP word a=none from by rw [← HM.out,if_neg (fun e=>hE e.1),if_pos ⟨hA,hG⟩])
      clear hE hG hA
      go_wp2_with fail
      go_ret
      exact ⟨by rw [HR.out];rfl,rfl⟩
     ·have tG:decide ((a:Int)<(k:Int))=false:=decide_eq_false (by omega)
      have tG':¬ (a:Int)<(k:Int):=by omega
      have tGn:decide (a<k)=false:=decide_eq_false hG
      have tE:(kw == word)=false:=beq_eq_false_iff_ne.2 hE
      have HR:=hid (show stepG word a (k+1) m=stepP word a from by rw [← HM.out,if_neg (fun e=>hE e.1),if_neg (fun e=>hG e.2)])
      clear hE hG hA
      go_wp2_with fail
      go_roundw
      case rel=>exact ⟨k+1,by omega,by omega,by go_num,by rw [← HR.out];congr 1;omega,by trivial⟩
      case measure=>simp [intOf];omega
  ·have eqn:k=9:=by omega
   subst eqn
   have t1:decide (((9:Nat):Int)<9)=false:=by decide
   have HR:=hid (show stepP word a=none from by rw [← hm];rfl)
   clear hm
   go_wp2_with fail
   go_ret
   exact ⟨by rw [HR.out];rfl,rfl⟩
structure OrdB (b o1 o2 o3:Nat) (od:Bool) (last:Int × Int) (w:World):Prop where
 c1:BxL 4 o1 [.bool od] w
 c2:BxL 90 o2 [.pointer (some ⟨b,0,none⟩)] w
 c3:BxL 42 o3 [.int .i64 last.1,.int .i64 last.2] w
 n1:b<o1
 n2:b<o2∧o2 ≠ o1
 n3:b<o3∧o3 ≠ o1∧o3 ≠ o2
theorem OrdB.but {b o1 o2 o3:Nat} {od:Bool} {last:Int × Int} {w w':World} (h:OrdB b o1 o2 o3 od last w) (hb:But (fun i=>i=b) w w'):OrdB b o1 o2 o3 od last w' :=
 ⟨h.c1.but hb (Nat.ne_of_gt h.n1),h.c2.but hb (Nat.ne_of_gt h.n2.1),h.c3.but hb (Nat.ne_of_gt h.n3.1),h.n1,h.n2,h.n3⟩
theorem OrdB.set1 {b o1 o2 o3:Nat} {od:Bool} {last:Int × Int} {w:World} (h:OrdB b o1 o2 o3 od last w) (z:Bool):OrdB b o1 o2 o3 z last (w.setCell ⟨o1,0,none⟩ (.bool z)) :=
 ⟨h.c1.set 0 _,h.c2.keep (heap_ot h.n2.2 _),h.c3.keep (heap_ot h.n3.2.1 _),h.n1,h.n2,h.n3⟩
theorem RwL.far {b:Nat} {vl vo vc vs:Value} {pw:Option Addr} {cw:Nat} {ws:List Wd} {r:RS} {w:World} (h:RwL b vl vo vc vs pw cw ws r w) {c i:Nat} (v:Value) (hc:b<c) {t:TypeId} {cs:List Value} (hx:BxL t c cs w) (h1:t ≠ 9) (h2:t ≠ 58) (h3:t ≠ 31):RwL b vl vo vc vs pw cw ws r (w.setCell ⟨c,i,none⟩ v) :=
 ⟨h.rr.other v hc,h.gl.keepN fun k hk=>heap_ot (fun e=>own_ne h.gl hx h1 (by rw [← e];exact hk)) _,h.go.keepN fun k hk=>heap_ot (fun e=>own_ne h.go hx h2 (by rw [← e];exact hk)) _,
  h.gc.keepN fun k hk=>heap_ot (fun e=>own_ne h.gc hx h3 (by rw [← e];exact hk)) _,h.gs.keepN fun k hk=>heap_ot (fun e=>own_ne h.gs hx h3 (by rw [← e];exact hk)) _,h.ne⟩
def OrdP (b:Nat) (vl vo vc vs:Value) (pw:Option Addr) (cw:Nat) (ws:List Wd) (o1 o2 o3:Nat) (od:Bool) (last:Int × Int) (r:RS) (w:World) (e:Ending) (w':World):Prop :=
 ((od || r.p.lv.isEmpty)=true∧e = .returned (.bool true)∧w'=w) ∨
 ((od || r.p.lv.isEmpty)=false∧latE r.p.lv.length r.p.od=0∧e = .returned (.bool true)∧RwL b vl vo vc vs pw cw ws r w'∧OrdB b o1 o2 o3 true last w'∧Below b w w') ∨
 ((od || r.p.lv.isEmpty)=false∧latE r.p.lv.length r.p.od ≠ 0∧e = .returned (.bool false)∧RwL b vl vo vc vs pw cw ws (failR r last (latE r.p.lv.length r.p.od)) w'∧OrdB b o1 o2 o3 true last w'∧Below b w w')
set_option maxRecDepth 100000 in
set_option maxHeartbeats 4000000 in
theorem order_po {b:Nat} {vl vo vc vs:Value} {pw:Option Addr} {cw:Nat} {ws:List Wd} {r:RS} {w:World} {o1 o2 o3:Nat} {od:Bool} {last:Int × Int} (h:RwL b vl vo vc vs pw cw ws r w) (ho:OrdB b o1 o2 o3 od last w) (hl:r.p.lv.length≤2000) (hd:r.p.od.length≤2000) (hT:Bru w) :
  Calls Tryd.prog 50 #[.pointer (some ⟨o1,0,none⟩),.pointer (some ⟨o2,0,none⟩),.pointer (some ⟨o3,0,none⟩)] w (OrdP b vl vo vc vs pw cw ws o1 o2 o3 od last r w):=by
 obtain ⟨pl,cl,rfl⟩:=h.gl.slc
 obtain ⟨po,co,rfl⟩:=h.go.slc
 obtain ⟨NL,hNL⟩:∃ n,r.p.lv.length=n:=⟨_,rfl⟩
 obtain ⟨NO,hNO⟩:∃ n,r.p.od.length=n:=⟨_,rfl⟩
 have HLN:=hid hl;have HDN:=hid hd
 rw [hNL,hNO] at h ⊢
 have HW:=hid h;have HO:=hid ho;have HT:=hid hT
 have c1:=ho.c1.at 0 rfl
 have c2:=ho.c2.at 0 rfl
 have c3:=h.rr.box.at 0 rfl
 have f1:=ho.c1.fr 0
 have HE:=hid (show r.p.lv.isEmpty=decide (NL=0) from by rw [← hNL];cases r.p.lv <;> simp)
 have HNL:=hid hNL;have HNO:=hid hNO
 clear h ho hl hd hT hNL hNO
 cases od with
 | true =>
  go_enter Tryd.func50,Tryd.ntmps50
  go_wp2_with fail
  go_ret
  exact .inl ⟨by simp,rfl,rfl⟩
 | false =>
  by_cases h0:NL=0
  ·have t0:((NL:Int) == 0)=true:=by rw [h0];rfl
   have HZ:=hid h0
   clear h0
   go_enter Tryd.func50,Tryd.ntmps50
   go_wp2_with fail
   go_ret
   exact .inl ⟨by rw [HE.out,HZ.out];rfl,rfl,rfl⟩
  have t0:((NL:Int) == 0)=false:=by rw [beq_eq_false_iff_ne];omega
  have HQ:=hid (show (false || r.p.lv.isEmpty)=false from by rw [HE.out,decide_eq_false h0];rfl)
  clear h0
  go_enter Tryd.func50,Tryd.ntmps50
  go_upto_region 4 with fail
  obtain ⟨w2,hw2⟩:∃ W,w.setCell ⟨o1,0,none⟩ (.bool true)=W:=⟨_,rfl⟩
  have HW3:=hid (show RwL b (.slice pl NL cl) (.slice po NO co) vc vs pw cw ws r w2 from by rw [← hw2];exact HW.out.far _ HO.out.n1 HO.out.c1 (by decide) (by decide) (by decide))
  have HO3:=hid (show OrdB b o1 o2 o3 true last w2 from by rw [← hw2];exact HO.out.set1 true)
  have HB2:=hid (show Below b w w2 from by rw [← hw2];exact (Below.refl _ _).setCell (p:=⟨o1,0,none⟩) (Nat.le_of_lt HO.out.n1) _)
  have hT2:Bru w2:=by
   intro i hi
   have:=HT.out i hi
   rw [← hw2]
   exact (World.cell?_of_block (a:=⟨_,i,none⟩) (heap_ot (fun e=>by
    have h2:=HT.out 1 (by omega)
    have h3:w.cell? ⟨o1,1,none⟩=none:=by rw [cell_of_row w o1 1 _ _ _ HO.out.c1];rfl
    rw [← e,h2] at h3
    cases h3) _)).trans this
  have HT2:=hid hT2
  rw [hw2]
  clear hw2 c1 c2 c3 f1 hT2
  have HC2:=hid (fun W (hW:But (fun i=>i=b) w2 W)=>(HO3.out.but hW).c2)
  have HNEW:=hid (new_any NL r.p.od (.slice po NO co) w2.drew (((HW3.out.below (Below.refl _ _).drew).go.sl (by have:=HDN.out;omega)).weaken fun k hk=>(hk.resolve_left fun e=>e.elim) |> fun hk=>(HW3.out.go.lt k hk).2) (by have:=HLN.out;rw [HNL.out] at this;omega) (HT2.out.keep (Below.refl _ _).drew))
  have hS:(fun W:World=>W.cell? ⟨o2,0,none⟩=some (.pointer (some ⟨b,0,none⟩))∧W.cell? ⟨b,0,none⟩=some (.slice pl NL cl)∧W.cell? ⟨b,1,none⟩=some (.slice po NO co)) w2.drew:=⟨HO3.out.c2.at 0 rfl,HW3.out.rr.box.at 0 rfl,HW3.out.rr.box.at 1 rfl⟩
  obtain ⟨eL,hL⟩:∃ e,latE NL r.p.od=e:=⟨_,rfl⟩
  rw [hL] at HNEW
  have HEL:=hid (show latE r.p.lv.length r.p.od=eL from by rw [HNL.out,hL])
  clear hL
  have hFa:=fT
  refine rgN (fun W:World=>W.cell? ⟨o2,0,none⟩=some (.pointer (some ⟨b,0,none⟩))∧W.cell? ⟨b,0,none⟩=some (.slice pl NL cl)∧W.cell? ⟨b,1,none⟩=some (.slice po NO co)) 17 (by kernel_rfl) ?_
  simp only [List.size_toArray,List.length_cons,List.length_nil,Nat.reduceAdd]
  iterate 11 (refine wpHJ_nx (v:=?_) 17 rfl rfl (by kernel_rfl) nE hS ?_ ?_;rotate_left;(focus refine Or.inl ⟨by rfl,?_⟩;rintro w' ⟨s0,s1,s2⟩;go_simp;try rfl);simp only [Act.put,actP,actQ])
  refine wpHJ_only 11 (by kernel_rfl) rfl (fun K hK=>?_)
  go_simp
  (with_reducible refine (callsIn_wide.2 HNEW.out).mono ?_)
  rintro e w5 ⟨⟨pp,rfl⟩,hb5⟩
  have HB5:=hid hb5
  have HW5:=hid (HW3.out.below ((Below.refl _ _).drew.trans hb5))
  have hc2:=(HC2.out w2.drew (But.refl _ w2).dr).bel hb5
  have HO2:=hid hc2
  have hS5:(fun W:World=>W.cell? ⟨o2,0,none⟩=some (.pointer (some ⟨b,0,none⟩))∧W.cell? ⟨b,0,none⟩=some (.slice pl NL cl)∧W.cell? ⟨b,1,none⟩=some (.slice po NO co)) w5:=⟨hc2.at 0 rfl,HW5.out.rr.box.at 0 rfl,HW5.out.rr.box.at 1 rfl⟩
  clear hb5 hc2 hS
  refine hK _ _ (.inr (.inr hS5)) ?_
  clear hK K
  iterate 5 (refine wpHJ_nx (v:=?_) 17 rfl rfl (by kernel_rfl) nE hS5 ?_ ?_;rotate_left;(focus refine Or.inl ⟨by rfl,?_⟩;rintro w' ⟨s0,s1,s2⟩;go_simp;try rfl);simp only [Act.put,actP,actQ])
  refine wpHJ_done (by kernel_rfl) ?_ _
  simp only [onlyN,Exit.then]
  clear hFa
  clear hS5
  have HO5:=hid (HO3.out.but (But.of_below _ ((Below.refl w2.heap.size w2).drew.trans HB5.out)))
  have HBB:=hid (show Below b w w5 from HB2.out.trans (((Below.refl w2.heap.size w2).drew.trans HB5.out).mono (Nat.le_of_lt HW3.out.rr.box.lt)))
  have d2:=HO5.out.c2.at 0 rfl
  have d3:=HO5.out.c3.at 0 rfl
  have d4:=HO5.out.c3.at 1 rfl
  by_cases hz:eL=0
  ·have tz:(eL == 0)=true:=by rw [hz];rfl
   have tz':(eL != 0)=false:=by rw [hz];rfl
   have HZ:=hid hz
   clear hz
   go_wp2_with fail
   go_ret
   exact .inr (.inl ⟨HQ.out,HEL.out.trans HZ.out,rfl,HW5.out,HO5.out,HBB.out⟩)
  ·have tz:(eL == 0)=false:=by rw [beq_eq_false_iff_ne];exact hz
   have tz':(eL != 0)=true:=by rw [bne_iff_ne];exact hz
   have HFA:=hid (fail_po last eL HW5.out.rr)
   have HZ:=hid hz
   clear hz
   go_wp2_with (go_at_call 51;(with_reducible refine HFA.out.mono ?_);rintro e w6 ⟨rfl,hr6,hb6⟩;have HR6:=hid hr6;have HB6:=hid hb6;clear hr6 hb6)
   go_ret
   exact .inr (.inr ⟨HQ.out,by rw [HEL.out];exact HZ.out,rfl,by rw [HEL.out];exact HW5.out.on HR6.out (failR_p _ _ _) HB6.out,HO5.out.but HB6.out,HBB.out.trans (HB6.out.below (Nat.le_of_lt HW5.out.rr.box.lt) (fun k e=>Nat.le_of_eq e.symm))⟩)
end Go.Proofs.YtbijamcoibonkaaDoor
