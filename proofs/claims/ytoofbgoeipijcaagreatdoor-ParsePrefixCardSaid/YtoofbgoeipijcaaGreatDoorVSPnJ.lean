/-
 A part.
-/
import Derived.Test.YtoofbgoeipijcaaGreatDoorVSPnI
import Derived.Laws.EntriesVeiled
namespace Go.Proofs.YtoofbgoeipijcaaGreatDoor
set_option linter.all false
open Go.RowKit Go.Shelf
attribute [local go_sem] Oper.semAt_some
def DecS (s:Bs) (gb:Bool) (fr ub:Int) (gf:Value):Prop :=
 (s=kWidth/\gb=true/\fr=0/\ub=0/\gf=.func (.func 179) #[] #[]) \/
 (s=kChan/\gb=true/\fr=1/\ub=1/\gf=.func (.func 180) #[] #[]) \/
 (s=kArray/\gb=true/\fr=1/\ub=2/\gf=.func (.func 181) #[] #[]) \/
 (s=kFunc/\gb=true/\fr=1/\ub=3/\gf=.func (.func 182) #[] #[]) \/
 (s=kMain/\gb=true/\fr=1/\ub=3/\gf=.func (.func 183) #[] #[]) \/
 ((s ≠ kWidth/\s ≠ kChan/\s ≠ kArray/\s ≠ kFunc/\s ≠ kMain)/\gb=false/\fr=0/\ub=0/\gf=.nilFunc)
theorem dec_fn {s:Bs} {gb:Bool} {fr ub:Int} {gf:Value} (h:DecS s gb fr ub gf):(∃ g,gf=.func g #[] #[])\/gf=.nilFunc:=by
 rcases h with ⟨_,_,_,_,rfl⟩ | ⟨_,_,_,_,rfl⟩ | ⟨_,_,_,_,rfl⟩ | ⟨_,_,_,_,rfl⟩ | ⟨_,_,_,_,rfl⟩ | ⟨_,_,_,_,rfl⟩
 all_goals first | exact .inl ⟨_,rfl⟩ | exact .inr rfl
theorem dec_get (s:Bs):∃ gb fr ub gf,(getS decE s).isSome=gb/\(getS decE s).getD (.agg #[.int .i64 0,.int .i64 0,.nilFunc])=.agg #[.int .i64 fr,.int .i64 ub,gf]/\DecS s gb fr ub gf:=by
 by_cases h0:s=kWidth
 ·subst h0;exact ⟨_,_,_,_,rfl,rfl,.inl ⟨rfl,rfl,rfl,rfl,rfl⟩⟩
 by_cases h1:s=kChan
 ·subst h1;exact ⟨_,_,_,_,rfl,rfl,.inr (.inl ⟨rfl,rfl,rfl,rfl,rfl⟩)⟩
 by_cases h2:s=kArray
 ·subst h2;exact ⟨_,_,_,_,rfl,rfl,.inr (.inr (.inl ⟨rfl,rfl,rfl,rfl,rfl⟩))⟩
 by_cases h3:s=kFunc
 ·subst h3;exact ⟨_,_,_,_,rfl,rfl,.inr (.inr (.inr (.inl ⟨rfl,rfl,rfl,rfl,rfl⟩)))⟩
 by_cases h4:s=kMain
 ·subst h4;exact ⟨_,_,_,_,rfl,rfl,.inr (.inr (.inr (.inr (.inl ⟨rfl,rfl,rfl,rfl,rfl⟩))))⟩
 have h:getS decE s=none:=by
  unfold getS decE
  simp only [List.find?_cons,List.find?_nil,decide_eq_false (Ne.symm h0),decide_eq_false (Ne.symm h1),decide_eq_false (Ne.symm h2),decide_eq_false (Ne.symm h3),decide_eq_false (Ne.symm h4)]
  rfl
 rw [h]
 exact ⟨_,_,_,_,rfl,rfl,.inr (.inr (.inr (.inr (.inr ⟨⟨h0,h1,h2,h3,h4⟩,rfl,rfl,rfl,rfl⟩))))⟩
theorem dec_no {S:PS} {c:Wd} {r:List Wd} {gb:Bool} {fr ub:Int} {gf:Value} (h:DecS c.1 gb fr ub gf) (hst:S.step<=3) (hc:¬ (gb=true/\fr<=(S.step:Int)/\(S.step:Int)<=ub)):declareP S c r=.error (wpos c,4):=by
 rw [declareP_eq]
 rcases h with ⟨h,h1,h2,h3,_⟩ | ⟨h,h1,h2,h3,_⟩ | ⟨h,h1,h2,h3,_⟩ | ⟨h,h1,h2,h3,_⟩ | ⟨h,h1,h2,h3,_⟩ | ⟨⟨h1,h2,h3,h4,h5⟩,_⟩
 ·rw [if_neg (fun e=>hc ⟨h1,by rw [h2];omega,by rw [h3];omega⟩),if_neg (fun e=>absurd (h.symm.trans e.1) (by decide)),if_neg (fun e=>absurd (h.symm.trans e.1) (by decide)),if_neg (fun e=>absurd (h.symm.trans e.1) (by decide)),if_neg (fun e=>absurd (h.symm.trans e.1) (by decide))]
 ·rw [if_neg (fun e=>absurd (h.symm.trans e.1) (by decide)),if_neg (fun e=>hc ⟨h1,by rw [h2];omega,by rw [h3];omega⟩),if_neg (fun e=>absurd (h.symm.trans e.1) (by decide)),if_neg (fun e=>absurd (h.symm.trans e.1) (by decide)),if_neg (fun e=>absurd (h.symm.trans e.1) (by decide))]
 ·rw [if_neg (fun e=>absurd (h.symm.trans e.1) (by decide)),if_neg (fun e=>absurd (h.symm.trans e.1) (by decide)),if_neg (fun e=>hc ⟨h1,by rw [h2];omega,by rw [h3];omega⟩),if_neg (fun e=>absurd (h.symm.trans e.1) (by decide)),if_neg (fun e=>absurd (h.symm.trans e.1) (by decide))]
 ·rw [if_neg (fun e=>absurd (h.symm.trans e.1) (by decide)),if_neg (fun e=>absurd (h.symm.trans e.1) (by decide)),if_neg (fun e=>absurd (h.symm.trans e.1) (by decide)),if_neg (fun e=>hc ⟨h1,by rw [h2];omega,by rw [h3];omega⟩),if_neg (fun e=>absurd (h.symm.trans e.1) (by decide))]
 ·rw [if_neg (fun e=>absurd (h.symm.trans e.1) (by decide)),if_neg (fun e=>absurd (h.symm.trans e.1) (by decide)),if_neg (fun e=>absurd (h.symm.trans e.1) (by decide)),if_neg (fun e=>absurd (h.symm.trans e.1) (by decide)),if_neg (fun e=>hc ⟨h1,by rw [h2];omega,by rw [h3];omega⟩)]
 ·rw [if_neg (fun e=>h1 e.1),if_neg (fun e=>h2 e.1),if_neg (fun e=>h3 e.1),if_neg (fun e=>h4 e.1),if_neg (fun e=>h5 e.1)]
theorem dec_kWidth {S:PS} {c:Wd} {r:List Wd} (h:c.1=kWidth) (h1:(0:Int)<=(S.step:Int)) (h2:(S.step:Int)<=0):declareP S c r=widthD S (wpos c) r:=by
 rw [declareP_eq,if_pos ⟨h,by omega⟩]
theorem dec_kChan {S:PS} {c:Wd} {r:List Wd} (h:c.1=kChan) (h1:(1:Int)<=(S.step:Int)) (h2:(S.step:Int)<=1):declareP S c r=chanD S (wpos c) r:=by
 rw [declareP_eq,if_neg (fun e=>absurd (h.symm.trans e.1) (by decide)),if_pos ⟨h,by omega⟩]
theorem dec_kArray {S:PS} {c:Wd} {r:List Wd} (h:c.1=kArray) (h1:(1:Int)<=(S.step:Int)) (h2:(S.step:Int)<=2):declareP S c r=arrayD S (wpos c) r:=by
 rw [declareP_eq,if_neg (fun e=>absurd (h.symm.trans e.1) (by decide)),if_neg (fun e=>absurd (h.symm.trans e.1) (by decide)),if_pos ⟨h,by omega,by omega⟩]
theorem dec_kFunc {S:PS} {c:Wd} {r:List Wd} (h:c.1=kFunc) (h1:(1:Int)<=(S.step:Int)) (h2:(S.step:Int)<=3):declareP S c r=funcD S (wpos c) r:=by
 rw [declareP_eq,if_neg (fun e=>absurd (h.symm.trans e.1) (by decide)),if_neg (fun e=>absurd (h.symm.trans e.1) (by decide)),if_neg (fun e=>absurd (h.symm.trans e.1) (by decide)),if_pos ⟨h,by omega⟩]
theorem dec_kMain {S:PS} {c:Wd} {r:List Wd} (h:c.1=kMain) (h1:(1:Int)<=(S.step:Int)) (h2:(S.step:Int)<=3):declareP S c r=mainD S r:=by
 rw [declareP_eq,if_neg (fun e=>absurd (h.symm.trans e.1) (by decide)),if_neg (fun e=>absurd (h.symm.trans e.1) (by decide)),if_neg (fun e=>absurd (h.symm.trans e.1) (by decide)),if_neg (fun e=>absurd (h.symm.trans e.1) (by decide)),if_pos ⟨h,by omega⟩]
set_option maxRecDepth 100000 in
set_option maxHeartbeats 4000000 in
theorem pdeclare_any {B b:Nat} {O:Nat->Value} {pw:Option Addr} {cw:Nat} {ws:List Wd} {S:PS} {w:World} {c:Wd} {r:List Wd} (hws:ws=c :: r) (hp:Pm B b O pw cw ws S 0 w) (hw:WOk ws) (hok:SOk S) (hin:S.inn=0) (hst:S.step<=3):Calls Tryz.prog 109 #[.pointer (some ⟨b,0,none⟩)] w (InsP B b pw cw ws (declareP S c r) w):=by
 have hd:=hp.rd
 have hk:=hp.le
 have hB:=hp.ge
 have HWS:=hid hws
 have HPM:=hid hp;have HOK:=hid hok;have HIN:=hid hin;have HST:=hid hst
 clear hp hok hin hws hst
 have HD:=hid hd;have HW:=hid hw;have HBB:=hid hB;have HLE:=hid hk;have HSZ:=hid hd.box.lt
 have HBZ:=hid (show B<=w.heap.size from Nat.le_of_lt (Nat.lt_of_le_of_lt hB hd.box.lt))
 clear hd hw hB hk
 go_enter Tryz.func109,Tryz.ntmps109
 go_upto_region 1 with (go_at_call 144;(with_reducible refine (next_any HD.out HLE.out HW.out HBB.out).mono ?_);rintro e w1 ⟨hb,⟨f1,hm,rfl⟩ | ⟨a,k1,v,hm,hk,rfl,hv,hd,hn⟩⟩;(focus (exact ⟨rfl,((But.refl (fun i=>i=b) w).below HBZ.out (fun i e=>e ▸ HBB.out)).trans hb,.inl ⟨f1,absurd hm (by rw [HWS.out];simp [nextP]),rfl⟩⟩));obtain rfl:v=.agg #[.string ⟨a.1.toArray⟩,.int .i64 (a.2.1:Int),.int .i64 (a.2.2:Int)]:=hv)
 have HN1:=hid ((But.refl (fun i=>i=b) w).trans hn)
 have HM:=hid hm;have HK1:=hid hk
 clear hb hm hk hn
 generalize hw3:World.alloc w1 _=w3
 have hX3:BxL 128 w1.heap.size [.string ⟨a.1.toArray⟩,.int .i64 (a.2.1:Int),.int .i64 (a.2.2:Int)] w3:=by rw [<- hw3];exact BxL.new _ _ _
 have HD3:=hid (show Rd b O S.p.width pw cw S.inn S.step ws k1 w3 from by rw [<- hw3];exact hd.al _)
 have HN3:=hid (show But (fun i=>i=b) w w3 from by rw [<- hw3];exact HN1.al _)
 clear hw3 hd
 generalize hq:w1.heap.size=q at hX3 ⊢
 have HX3:=hid hX3
 have HQ:=hid (show w.heap.size<=q from by rw [<- hq];exact HN1.size)
 clear hq
 clear hX3
 obtain ⟨hac,hrr⟩:a=c/\ws.drop k1=r:=by
  have h:=HM.out
  rw [HWS.out] at h ⊢
  simp only [List.drop_zero,nextP,Except.ok.injEq,Prod.mk.injEq] at h
  exact ⟨h.1.symm,h.2.symm⟩
 subst hac
 have HRR:=hid hrr
 have HFP:=hid (show fpos ws=wpos a from by rw [HWS.out];rfl)
 clear hrr
 have HDw3:=hid HD3.out;have HNw3:=hid HN3.out;have HXw3:=hid HX3.out
 obtain ⟨gb,fr,ub,gf,hgb,hgv,hdec⟩:=dec_get a.1
 have HGB:=hid hgb;have HGV:=hid hgv;have HDEC:=hid hdec
 clear hgb hgv hdec
 go_cut [3,4] (fun s3 s4 wx=>∃ q3,s3=.pointer (some ⟨q3,0,none⟩)/\s4=.bool gb/\w.heap.size<=q3/\Rd b O S.p.width pw cw S.inn S.step ws k1 wx/\But (fun i=>i=b) w wx/\BxL 128 q [.string ⟨a.1.toArray⟩,.int .i64 (a.2.1:Int),.int .i64 (a.2.2:Int)] wx/\BxL 187 q3 [.int .i64 fr,.int .i64 ub,gf] wx)
 case first =>
  have hS:(fun W=>W.cell? ⟨q,0,none⟩=some (.string ⟨a.1.toArray⟩)) w3.drew:=HX3.at 0 rfl
  rcases dec_fn HDEC.out with ⟨gg,rfl⟩ | rfl
  ·have hFa:=fT
   refine rgP (fun _ _ _ h=>h) (fun W=>W.cell? ⟨q,0,none⟩=some (.string ⟨a.1.toArray⟩)) 8 (by kernel_rfl) ?_
   simp only [zP,Nat.reduceAdd]
   (refine nxW (v:=?_) 11 hS ?_ ?_;rotate_left;(focus rintro w' s0;go_simp;try rfl);simp only [aP])
   (refine nxW (v:=?_) 11 hS ?_ ?_;rotate_left;(focus rintro w' s0;go_simp;try rfl);simp only [aP])
   refine wpHJ_both 0 7 (by kernel_rfl) rfl rfl (fun K hK=>?_) (fun K hK=>?_)
   ·go_simp
    (with_reducible refine (callsIn_wide.2 (declarations_any w3.drew)).mono ?_)
    rintro e v0 ⟨rm,rfl,hrm,hmap,hb⟩
    have HDv0:=hid ((HDw3.below (Below.refl _ _).drew).below hb)
    have HNv0:=hid (HNw3.dr.trans (But.of_below _ hb))
    have HXv0:=hid ((HXw3.bel (Below.refl _ _).drew).bel hb)
    have hSv0:(fun W=>W.cell? ⟨q,0,none⟩=some (.string ⟨a.1.toArray⟩)) v0:=HXv0.at 0 rfl
    have HMAP:=hid hmap
    clear hb hmap hrm
    refine hK _ _ (.inr (.inr hSv0)) ?_
    clear hK K
    refine wpHJ_both 3 7 (by kernel_rfl) rfl rfl (fun K hK=>?_) (fun K hK=>?_)
    ·have hlk:(Instr.lookup 189 (.map (some rm)) (.string ⟨a.1.toArray⟩) true).run Tryz.prog v0=.ok (.tuple #[.agg #[.int .i64 fr,.int .i64 ub,(.func gg #[] #[])],.bool gb]) v0:=by
      have h:=run_lookS (P:=Tryz.prog) (w:=v0) (t:=189) (kt:=9) (e:=187) HMAP.out Tryz.underlying189 Tryz.underlying9 a.1 (.agg #[.int .i64 0,.int .i64 0,.nilFunc]) (by kernel_rfl) true
      rw [if_pos rfl,HGV.out,HGB.out] at h
      exact h
     go_simp
     clear hlk
     refine hK _ _ (.inr (.inr hSv0)) ?_
     clear hK K
     (refine nxW (v:=?_) 10 hSv0 ?_ ?_;rotate_left;(focus rintro w' s0;go_simp;try rfl);simp only [aP])
     (refine nxW (v:=?_) 10 hSv0 ?_ ?_;rotate_left;(focus rintro w' s0;go_simp;try rfl);simp only [aP])
     (refine npW (v:=?_) 10 (.inr hSv0) ?_ ?_;rotate_left;(focus rintro w' _;go_simp;try rfl);simp only [aP])
     refine oy 7 fun K hK=>?_
     go_simp
     generalize hw:World.alloc _ _=v0_7
     have hb:Below v0.heap.size v0 v0_7:=by rw [<- hw];exact bA
     have HDv0_7:=hid (HDv0.below hb);have HNv0_7:=hid (HNv0.trans (But.of_below _ hb));have HXv0_7:=hid (HXv0.bel hb)
     have HTv0_7:=hid (show BxL 187 v0.heap.size [.int .i64 0,.int .i64 0,.nilFunc] v0_7 from by rw [<- hw];exact BxL.new _ _ _)
     have HQ3:=hid (show w.heap.size<=v0.heap.size from HNv0.size)
     have HQQ:=hid (show q<v0.heap.size from HXv0.lt)
     have HMAP:=hid (HMAP.keep (hb.block rm HMAP.lt))
     clear hw hb
     generalize hq:v0.heap.size=q3 at HTv0_7 HQ3 HQQ ⊢
     clear hq
     have hSv0_7:(fun W=>W.cell? ⟨q,0,none⟩=some (.string ⟨a.1.toArray⟩)) v0_7:=HXv0_7.at 0 rfl
     refine hK _ _ (.inr (.inr hSv0_7)) ?_
     clear hK K
     refine oy 8 fun K hK=>?_
     obtain ⟨t0,t1,t2⟩:=HTv0_7.p3
     have f0:=HTv0_7.fr 0;have f1:=HTv0_7.fr 1;have f2:=HTv0_7.fr 2
     go_simp
     generalize hw:World.setCell _ _ _=wz
     have hbq:b<q3:=by have:=HSZ.out;have:=HQ3.out;omega
     have HDz:=hid (show Rd b O S.p.width pw cw S.inn S.step ws k1 wz from by rw [<- hw];exact (((HDv0_7.other _ hbq).other _ hbq).other _ hbq))
     have HNz:=hid (show But (fun i=>i=b) w wz from by rw [<- hw];exact (((HNv0_7.setC _ (.inr HQ3.out)).setC _ (.inr HQ3.out)).setC _ (.inr HQ3.out)))
     have HTz:=hid (show BxL 187 q3 [.int .i64 fr,.int .i64 ub,(.func gg #[] #[])] wz from by rw [<- hw];exact (((HTv0_7.set 0 _).set 1 _).set 2 _))
     have hqq:q ≠ q3:=by have:=HQQ.out;omega
     have HXz:=hid (show BxL 128 q [.string ⟨a.1.toArray⟩,.int .i64 (a.2.1:Int),.int .i64 (a.2.2:Int)] wz from by rw [<- hw];exact (((HXv0_7.keep (heap_ot hqq _)).keep (heap_ot hqq _)).keep (heap_ot hqq _)))
     clear hw hbq hqq t0 t1 t2 f0 f1 f2
     refine hK _ _ (.inl rfl) ?_
     clear hK K
     (refine npW (v:=?_) 10 (.inl rfl) ?_ ?_;rotate_left;(focus rintro w' _;go_simp;try rfl);simp only [aP])
     refine wpHJ_done (by kernel_rfl) ?_ _
     simp only [onlyP,Exit.then]
     clear hFa
     first | go_meet | (go_wp2_with fail;go_meet)
     case rel=>exact ⟨q3,rfl,rfl,HQ3.out,HDz.out,HNz.out,HXz.out,HTz.out⟩
    ·go_simp
     generalize hw:World.alloc _ _=v0_7
     have hb:Below v0.heap.size v0 v0_7:=by rw [<- hw];exact bA
     have HDv0_7:=hid (HDv0.below hb);have HNv0_7:=hid (HNv0.trans (But.of_below _ hb));have HXv0_7:=hid (HXv0.bel hb)
     have HTv0_7:=hid (show BxL 187 v0.heap.size [.int .i64 0,.int .i64 0,.nilFunc] v0_7 from by rw [<- hw];exact BxL.new _ _ _)
     have HQ3:=hid (show w.heap.size<=v0.heap.size from HNv0.size)
     have HQQ:=hid (show q<v0.heap.size from HXv0.lt)
     have HMAP:=hid (HMAP.keep (hb.block rm HMAP.lt))
     clear hw hb
     generalize hq:v0.heap.size=q3 at HTv0_7 HQ3 HQQ ⊢
     clear hq
     have hSv0_7:(fun W=>W.cell? ⟨q,0,none⟩=some (.string ⟨a.1.toArray⟩)) v0_7:=HXv0_7.at 0 rfl
     refine hK _ _ (.inr (.inr hSv0_7)) ?_
     clear hK K
     refine oy 3 fun K hK=>?_
     have hlk:(Instr.lookup 189 (.map (some rm)) (.string ⟨a.1.toArray⟩) true).run Tryz.prog v0_7=.ok (.tuple #[.agg #[.int .i64 fr,.int .i64 ub,(.func gg #[] #[])],.bool gb]) v0_7:=by
      have h:=run_lookS (P:=Tryz.prog) (w:=v0_7) (t:=189) (kt:=9) (e:=187) HMAP.out Tryz.underlying189 Tryz.underlying9 a.1 (.agg #[.int .i64 0,.int .i64 0,.nilFunc]) (by kernel_rfl) true
      rw [if_pos rfl,HGV.out,HGB.out] at h
      exact h
     go_simp
     clear hlk
     refine hK _ _ (.inr (.inr hSv0_7)) ?_
     clear hK K
     (refine nxW (v:=?_) 9 hSv0_7 ?_ ?_;rotate_left;(focus rintro w' s0;go_simp;try rfl);simp only [aP])
     (refine nxW (v:=?_) 9 hSv0_7 ?_ ?_;rotate_left;(focus rintro w' s0;go_simp;try rfl);simp only [aP])
     (refine npW (v:=?_) 9 (.inr hSv0_7) ?_ ?_;rotate_left;(focus rintro w' _;go_simp;try rfl);simp only [aP])
     refine oy 8 fun K hK=>?_
     obtain ⟨t0,t1,t2⟩:=HTv0_7.p3
     have f0:=HTv0_7.fr 0;have f1:=HTv0_7.fr 1;have f2:=HTv0_7.fr 2
     go_simp
     generalize hw:World.setCell _ _ _=wz
     have hbq:b<q3:=by have:=HSZ.out;have:=HQ3.out;omega
     have HDz:=hid (show Rd b O S.p.width pw cw S.inn S.step ws k1 wz from by rw [<- hw];exact (((HDv0_7.other _ hbq).other _ hbq).other _ hbq))
     have HNz:=hid (show But (fun i=>i=b) w wz from by rw [<- hw];exact (((HNv0_7.setC _ (.inr HQ3.out)).setC _ (.inr HQ3.out)).setC _ (.inr HQ3.out)))
     have HTz:=hid (show BxL 187 q3 [.int .i64 fr,.int .i64 ub,(.func gg #[] #[])] wz from by rw [<- hw];exact (((HTv0_7.set 0 _).set 1 _).set 2 _))
     have hqq:q ≠ q3:=by have:=HQQ.out;omega
     have HXz:=hid (show BxL 128 q [.string ⟨a.1.toArray⟩,.int .i64 (a.2.1:Int),.int .i64 (a.2.2:Int)] wz from by rw [<- hw];exact (((HXv0_7.keep (heap_ot hqq _)).keep (heap_ot hqq _)).keep (heap_ot hqq _)))
     clear hw hbq hqq t0 t1 t2 f0 f1 f2
     refine hK _ _ (.inl rfl) ?_
     clear hK K
     (refine npW (v:=?_) 10 (.inl rfl) ?_ ?_;rotate_left;(focus rintro w' _;go_simp;try rfl);simp only [aP])
     refine wpHJ_done (by kernel_rfl) ?_ _
     simp only [onlyP,Exit.then]
     clear hFa
     first | go_meet | (go_wp2_with fail;go_meet)
     case rel=>exact ⟨q3,rfl,rfl,HQ3.out,HDz.out,HNz.out,HXz.out,HTz.out⟩
   ·go_simp
    generalize hw:World.drew (World.alloc _ _)=v7
    have hb:Below w3.heap.size w3 v7:=by rw [<- hw];exact (bA).drew
    have HDv7:=hid (HDw3.below hb);have HNv7:=hid (HNw3.trans (But.of_below _ hb));have HXv7:=hid (HXw3.bel hb)
    have HTv7:=hid (show BxL 187 w3.heap.size [.int .i64 0,.int .i64 0,.nilFunc] v7 from by rw [<- hw];exact (BxL.new _ _ _).bel (Below.refl _ _).drew)
    have HQ3:=hid (show w.heap.size<=w3.heap.size from HNw3.size)
    have HQQ:=hid (show q<w3.heap.size from HXw3.lt)
    clear hw hb
    generalize hq:w3.heap.size=q3 at HTv7 HQ3 HQQ ⊢
    clear hq
    have hSv7:(fun W=>W.cell? ⟨q,0,none⟩=some (.string ⟨a.1.toArray⟩)) v7:=HXv7.at 0 rfl
    refine hK _ _ (.inr (.inr hSv7)) ?_
    clear hK K
    refine oy 0 fun K hK=>?_
    go_simp
    (with_reducible refine (callsIn_wide.2 (declarations_any v7)).mono ?_)
    rintro e v7_0 ⟨rm,rfl,hrm,hmap,hb⟩
    have HDv7_0:=hid ((HDv7.out).below hb)
    have HNv7_0:=hid (HNv7.trans (But.of_below _ hb))
    have HXv7_0:=hid ((HXv7.out).bel hb)
    have HTv7_0:=hid (HTv7.bel hb)
    have hSv7_0:(fun W=>W.cell? ⟨q,0,none⟩=some (.string ⟨a.1.toArray⟩)) v7_0:=HXv7_0.at 0 rfl
    have HMAP:=hid hmap
    clear hb hmap hrm
    refine hK _ _ (.inr (.inr hSv7_0)) ?_
    clear hK K
    refine oy 3 fun K hK=>?_
    have hlk:(Instr.lookup 189 (.map (some rm)) (.string ⟨a.1.toArray⟩) true).run Tryz.prog v7_0=.ok (.tuple #[.agg #[.int .i64 fr,.int .i64 ub,(.func gg #[] #[])],.bool gb]) v7_0:=by
     have h:=run_lookS (P:=Tryz.prog) (w:=v7_0) (t:=189) (kt:=9) (e:=187) HMAP.out Tryz.underlying189 Tryz.underlying9 a.1 (.agg #[.int .i64 0,.int .i64 0,.nilFunc]) (by kernel_rfl) true
     rw [if_pos rfl,HGV.out,HGB.out] at h
     exact h
    go_simp
    clear hlk
    refine hK _ _ (.inr (.inr hSv7_0)) ?_
    clear hK K
    (refine nxW (v:=?_) 9 hSv7_0 ?_ ?_;rotate_left;(focus rintro w' s0;go_simp;try rfl);simp only [aP])
    (refine nxW (v:=?_) 9 hSv7_0 ?_ ?_;rotate_left;(focus rintro w' s0;go_simp;try rfl);simp only [aP])
    (refine npW (v:=?_) 9 (.inr hSv7_0) ?_ ?_;rotate_left;(focus rintro w' _;go_simp;try rfl);simp only [aP])
    refine oy 8 fun K hK=>?_
    obtain ⟨t0,t1,t2⟩:=HTv7_0.p3
    have f0:=HTv7_0.fr 0;have f1:=HTv7_0.fr 1;have f2:=HTv7_0.fr 2
    go_simp
    generalize hw:World.setCell _ _ _=wz
    have hbq:b<q3:=by have:=HSZ.out;have:=HQ3.out;omega
    have HDz:=hid (show Rd b O S.p.width pw cw S.inn S.step ws k1 wz from by rw [<- hw];exact (((HDv7_0.other _ hbq).other _ hbq).other _ hbq))
    have HNz:=hid (show But (fun i=>i=b) w wz from by rw [<- hw];exact (((HNv7_0.setC _ (.inr HQ3.out)).setC _ (.inr HQ3.out)).setC _ (.inr HQ3.out)))
    have HTz:=hid (show BxL 187 q3 [.int .i64 fr,.int .i64 ub,(.func gg #[] #[])] wz from by rw [<- hw];exact (((HTv7_0.set 0 _).set 1 _).set 2 _))
    have hqq:q ≠ q3:=by have:=HQQ.out;omega
    have HXz:=hid (show BxL 128 q [.string ⟨a.1.toArray⟩,.int .i64 (a.2.1:Int),.int .i64 (a.2.2:Int)] wz from by rw [<- hw];exact (((HXv7_0.keep (heap_ot hqq _)).keep (heap_ot hqq _)).keep (heap_ot hqq _)))
    clear hw hbq hqq t0 t1 t2 f0 f1 f2
    refine hK _ _ (.inl rfl) ?_
    clear hK K
    (refine npW (v:=?_) 10 (.inl rfl) ?_ ?_;rotate_left;(focus rintro w' _;go_simp;try rfl);simp only [aP])
    refine wpHJ_done (by kernel_rfl) ?_ _
    simp only [onlyP,Exit.then]
    clear hFa
    first | go_meet | (go_wp2_with fail;go_meet)
    case rel=>exact ⟨q3,rfl,rfl,HQ3.out,HDz.out,HNz.out,HXz.out,HTz.out⟩
  ·have hFa:=fT
   refine rgP (fun _ _ _ h=>h) (fun W=>W.cell? ⟨q,0,none⟩=some (.string ⟨a.1.toArray⟩)) 8 (by kernel_rfl) ?_
   simp only [zP,Nat.reduceAdd]
   (refine nxW (v:=?_) 11 hS ?_ ?_;rotate_left;(focus rintro w' s0;go_simp;try rfl);simp only [aP])
   (refine nxW (v:=?_) 11 hS ?_ ?_;rotate_left;(focus rintro w' s0;go_simp;try rfl);simp only [aP])
   refine wpHJ_both 0 7 (by kernel_rfl) rfl rfl (fun K hK=>?_) (fun K hK=>?_)
   ·go_simp
    (with_reducible refine (callsIn_wide.2 (declarations_any w3.drew)).mono ?_)
    rintro e v0 ⟨rm,rfl,hrm,hmap,hb⟩
    have HDv0:=hid ((HDw3.below (Below.refl _ _).drew).below hb)
    have HNv0:=hid (HNw3.dr.trans (But.of_below _ hb))
    have HXv0:=hid ((HXw3.bel (Below.refl _ _).drew).bel hb)
    have hSv0:(fun W=>W.cell? ⟨q,0,none⟩=some (.string ⟨a.1.toArray⟩)) v0:=HXv0.at 0 rfl
    have HMAP:=hid hmap
    clear hb hmap hrm
    refine hK _ _ (.inr (.inr hSv0)) ?_
    clear hK K
    refine wpHJ_both 3 7 (by kernel_rfl) rfl rfl (fun K hK=>?_) (fun K hK=>?_)
    ·have hlk:(Instr.lookup 189 (.map (some rm)) (.string ⟨a.1.toArray⟩) true).run Tryz.prog v0=.ok (.tuple #[.agg #[.int .i64 fr,.int .i64 ub,.nilFunc],.bool gb]) v0:=by
      have h:=run_lookS (P:=Tryz.prog) (w:=v0) (t:=189) (kt:=9) (e:=187) HMAP.out Tryz.underlying189 Tryz.underlying9 a.1 (.agg #[.int .i64 0,.int .i64 0,.nilFunc]) (by kernel_rfl) true
      rw [if_pos rfl,HGV.out,HGB.out] at h
      exact h
     go_simp
     clear hlk
     refine hK _ _ (.inr (.inr hSv0)) ?_
     clear hK K
     (refine nxW (v:=?_) 10 hSv0 ?_ ?_;rotate_left;(focus rintro w' s0;go_simp;try rfl);simp only [aP])
     (refine nxW (v:=?_) 10 hSv0 ?_ ?_;rotate_left;(focus rintro w' s0;go_simp;try rfl);simp only [aP])
     (refine npW (v:=?_) 10 (.inr hSv0) ?_ ?_;rotate_left;(focus rintro w' _;go_simp;try rfl);simp only [aP])
     refine oy 7 fun K hK=>?_
     go_simp
     generalize hw:World.alloc _ _=v0_7
     have hb:Below v0.heap.size v0 v0_7:=by rw [<- hw];exact bA
     have HDv0_7:=hid (HDv0.below hb);have HNv0_7:=hid (HNv0.trans (But.of_below _ hb));have HXv0_7:=hid (HXv0.bel hb)
     have HTv0_7:=hid (show BxL 187 v0.heap.size [.int .i64 0,.int .i64 0,.nilFunc] v0_7 from by rw [<- hw];exact BxL.new _ _ _)
     have HQ3:=hid (show w.heap.size<=v0.heap.size from HNv0.size)
     have HQQ:=hid (show q<v0.heap.size from HXv0.lt)
     have HMAP:=hid (HMAP.keep (hb.block rm HMAP.lt))
     clear hw hb
     generalize hq:v0.heap.size=q3 at HTv0_7 HQ3 HQQ ⊢
     clear hq
     have hSv0_7:(fun W=>W.cell? ⟨q,0,none⟩=some (.string ⟨a.1.toArray⟩)) v0_7:=HXv0_7.at 0 rfl
     refine hK _ _ (.inr (.inr hSv0_7)) ?_
     clear hK K
     refine oy 8 fun K hK=>?_
     obtain ⟨t0,t1,t2⟩:=HTv0_7.p3
     have f0:=HTv0_7.fr 0;have f1:=HTv0_7.fr 1;have f2:=HTv0_7.fr 2
     go_simp
     generalize hw:World.setCell _ _ _=wz
     have hbq:b<q3:=by have:=HSZ.out;have:=HQ3.out;omega
     have HDz:=hid (show Rd b O S.p.width pw cw S.inn S.step ws k1 wz from by rw [<- hw];exact (((HDv0_7.other _ hbq).other _ hbq).other _ hbq))
     have HNz:=hid (show But (fun i=>i=b) w wz from by rw [<- hw];exact (((HNv0_7.setC _ (.inr HQ3.out)).setC _ (.inr HQ3.out)).setC _ (.inr HQ3.out)))
     have HTz:=hid (show BxL 187 q3 [.int .i64 fr,.int .i64 ub,.nilFunc] wz from by rw [<- hw];exact (((HTv0_7.set 0 _).set 1 _).set 2 _))
     have hqq:q ≠ q3:=by have:=HQQ.out;omega
     have HXz:=hid (show BxL 128 q [.string ⟨a.1.toArray⟩,.int .i64 (a.2.1:Int),.int .i64 (a.2.2:Int)] wz from by rw [<- hw];exact (((HXv0_7.keep (heap_ot hqq _)).keep (heap_ot hqq _)).keep (heap_ot hqq _)))
     clear hw hbq hqq t0 t1 t2 f0 f1 f2
     refine hK _ _ (.inl rfl) ?_
     clear hK K
     (refine npW (v:=?_) 10 (.inl rfl) ?_ ?_;rotate_left;(focus rintro w' _;go_simp;try rfl);simp only [aP])
     refine wpHJ_done (by kernel_rfl) ?_ _
     simp only [onlyP,Exit.then]
     clear hFa
     first | go_meet | (go_wp2_with fail;go_meet)
     case rel=>exact ⟨q3,rfl,rfl,HQ3.out,HDz.out,HNz.out,HXz.out,HTz.out⟩
    ·go_simp
     generalize hw:World.alloc _ _=v0_7
     have hb:Below v0.heap.size v0 v0_7:=by rw [<- hw];exact bA
     have HDv0_7:=hid (HDv0.below hb);have HNv0_7:=hid (HNv0.trans (But.of_below _ hb));have HXv0_7:=hid (HXv0.bel hb)
     have HTv0_7:=hid (show BxL 187 v0.heap.size [.int .i64 0,.int .i64 0,.nilFunc] v0_7 from by rw [<- hw];exact BxL.new _ _ _)
     have HQ3:=hid (show w.heap.size<=v0.heap.size from HNv0.size)
     have HQQ:=hid (show q<v0.heap.size from HXv0.lt)
     have HMAP:=hid (HMAP.keep (hb.block rm HMAP.lt))
     clear hw hb
     generalize hq:v0.heap.size=q3 at HTv0_7 HQ3 HQQ ⊢
     clear hq
     have hSv0_7:(fun W=>W.cell? ⟨q,0,none⟩=some (.string ⟨a.1.toArray⟩)) v0_7:=HXv0_7.at 0 rfl
     refine hK _ _ (.inr (.inr hSv0_7)) ?_
     clear hK K
     refine oy 3 fun K hK=>?_
     have hlk:(Instr.lookup 189 (.map (some rm)) (.string ⟨a.1.toArray⟩) true).run Tryz.prog v0_7=.ok (.tuple #[.agg #[.int .i64 fr,.int .i64 ub,.nilFunc],.bool gb]) v0_7:=by
      have h:=run_lookS (P:=Tryz.prog) (w:=v0_7) (t:=189) (kt:=9) (e:=187) HMAP.out Tryz.underlying189 Tryz.underlying9 a.1 (.agg #[.int .i64 0,.int .i64 0,.nilFunc]) (by kernel_rfl) true
      rw [if_pos rfl,HGV.out,HGB.out] at h
      exact h
     go_simp
     clear hlk
     refine hK _ _ (.inr (.inr hSv0_7)) ?_
     clear hK K
     (refine nxW (v:=?_) 9 hSv0_7 ?_ ?_;rotate_left;(focus rintro w' s0;go_simp;try rfl);simp only [aP])
     (refine nxW (v:=?_) 9 hSv0_7 ?_ ?_;rotate_left;(focus rintro w' s0;go_simp;try rfl);simp only [aP])
     (refine npW (v:=?_) 9 (.inr hSv0_7) ?_ ?_;rotate_left;(focus rintro w' _;go_simp;try rfl);simp only [aP])
     refine oy 8 fun K hK=>?_
     obtain ⟨t0,t1,t2⟩:=HTv0_7.p3
     have f0:=HTv0_7.fr 0;have f1:=HTv0_7.fr 1;have f2:=HTv0_7.fr 2
     go_simp
     generalize hw:World.setCell _ _ _=wz
     have hbq:b<q3:=by have:=HSZ.out;have:=HQ3.out;omega
     have HDz:=hid (show Rd b O S.p.width pw cw S.inn S.step ws k1 wz from by rw [<- hw];exact (((HDv0_7.other _ hbq).other _ hbq).other _ hbq))
     have HNz:=hid (show But (fun i=>i=b) w wz from by rw [<- hw];exact (((HNv0_7.setC _ (.inr HQ3.out)).setC _ (.inr HQ3.out)).setC _ (.inr HQ3.out)))
     have HTz:=hid (show BxL 187 q3 [.int .i64 fr,.int .i64 ub,.nilFunc] wz from by rw [<- hw];exact (((HTv0_7.set 0 _).set 1 _).set 2 _))
     have hqq:q ≠ q3:=by have:=HQQ.out;omega
     have HXz:=hid (show BxL 128 q [.string ⟨a.1.toArray⟩,.int .i64 (a.2.1:Int),.int .i64 (a.2.2:Int)] wz from by rw [<- hw];exact (((HXv0_7.keep (heap_ot hqq _)).keep (heap_ot hqq _)).keep (heap_ot hqq _)))
     clear hw hbq hqq t0 t1 t2 f0 f1 f2
     refine hK _ _ (.inl rfl) ?_
     clear hK K
     (refine npW (v:=?_) 10 (.inl rfl) ?_ ?_;rotate_left;(focus rintro w' _;go_simp;try rfl);simp only [aP])
     refine wpHJ_done (by kernel_rfl) ?_ _
     simp only [onlyP,Exit.then]
     clear hFa
     first | go_meet | (go_wp2_with fail;go_meet)
     case rel=>exact ⟨q3,rfl,rfl,HQ3.out,HDz.out,HNz.out,HXz.out,HTz.out⟩
   ·go_simp
    generalize hw:World.drew (World.alloc _ _)=v7
    have hb:Below w3.heap.size w3 v7:=by rw [<- hw];exact (bA).drew
    have HDv7:=hid (HDw3.below hb);have HNv7:=hid (HNw3.trans (But.of_below _ hb));have HXv7:=hid (HXw3.bel hb)
    have HTv7:=hid (show BxL 187 w3.heap.size [.int .i64 0,.int .i64 0,.nilFunc] v7 from by rw [<- hw];exact (BxL.new _ _ _).bel (Below.refl _ _).drew)
    have HQ3:=hid (show w.heap.size<=w3.heap.size from HNw3.size)
    have HQQ:=hid (show q<w3.heap.size from HXw3.lt)
    clear hw hb
    generalize hq:w3.heap.size=q3 at HTv7 HQ3 HQQ ⊢
    clear hq
    have hSv7:(fun W=>W.cell? ⟨q,0,none⟩=some (.string ⟨a.1.toArray⟩)) v7:=HXv7.at 0 rfl
    refine hK _ _ (.inr (.inr hSv7)) ?_
    clear hK K
    refine oy 0 fun K hK=>?_
    go_simp
    (with_reducible refine (callsIn_wide.2 (declarations_any v7)).mono ?_)
    rintro e v7_0 ⟨rm,rfl,hrm,hmap,hb⟩
    have HDv7_0:=hid ((HDv7.out).below hb)
    have HNv7_0:=hid (HNv7.trans (But.of_below _ hb))
    have HXv7_0:=hid ((HXv7.out).bel hb)
    have HTv7_0:=hid (HTv7.bel hb)
    have hSv7_0:(fun W=>W.cell? ⟨q,0,none⟩=some (.string ⟨a.1.toArray⟩)) v7_0:=HXv7_0.at 0 rfl
    have HMAP:=hid hmap
    clear hb hmap hrm
    refine hK _ _ (.inr (.inr hSv7_0)) ?_
    clear hK K
    refine oy 3 fun K hK=>?_
    have hlk:(Instr.lookup 189 (.map (some rm)) (.string ⟨a.1.toArray⟩) true).run Tryz.prog v7_0=.ok (.tuple #[.agg #[.int .i64 fr,.int .i64 ub,.nilFunc],.bool gb]) v7_0:=by
     have h:=run_lookS (P:=Tryz.prog) (w:=v7_0) (t:=189) (kt:=9) (e:=187) HMAP.out Tryz.underlying189 Tryz.underlying9 a.1 (.agg #[.int .i64 0,.int .i64 0,.nilFunc]) (by kernel_rfl) true
     rw [if_pos rfl,HGV.out,HGB.out] at h
     exact h
    go_simp
    clear hlk
    refine hK _ _ (.inr (.inr hSv7_0)) ?_
    clear hK K
    (refine nxW (v:=?_) 9 hSv7_0 ?_ ?_;rotate_left;(focus rintro w' s0;go_simp;try rfl);simp only [aP])
    (refine nxW (v:=?_) 9 hSv7_0 ?_ ?_;rotate_left;(focus rintro w' s0;go_simp;try rfl);simp only [aP])
    (refine npW (v:=?_) 9 (.inr hSv7_0) ?_ ?_;rotate_left;(focus rintro w' _;go_simp;try rfl);simp only [aP])
    refine oy 8 fun K hK=>?_
    obtain ⟨t0,t1,t2⟩:=HTv7_0.p3
    have f0:=HTv7_0.fr 0;have f1:=HTv7_0.fr 1;have f2:=HTv7_0.fr 2
    go_simp
    generalize hw:World.setCell _ _ _=wz
    have hbq:b<q3:=by have:=HSZ.out;have:=HQ3.out;omega
    have HDz:=hid (show Rd b O S.p.width pw cw S.inn S.step ws k1 wz from by rw [<- hw];exact (((HDv7_0.other _ hbq).other _ hbq).other _ hbq))
    have HNz:=hid (show But (fun i=>i=b) w wz from by rw [<- hw];exact (((HNv7_0.setC _ (.inr HQ3.out)).setC _ (.inr HQ3.out)).setC _ (.inr HQ3.out)))
    have HTz:=hid (show BxL 187 q3 [.int .i64 fr,.int .i64 ub,.nilFunc] wz from by rw [<- hw];exact (((HTv7_0.set 0 _).set 1 _).set 2 _))
    have hqq:q ≠ q3:=by have:=HQQ.out;omega
    have HXz:=hid (show BxL 128 q [.string ⟨a.1.toArray⟩,.int .i64 (a.2.1:Int),.int .i64 (a.2.2:Int)] wz from by rw [<- hw];exact (((HXv7_0.keep (heap_ot hqq _)).keep (heap_ot hqq _)).keep (heap_ot hqq _)))
    clear hw hbq hqq t0 t1 t2 f0 f1 f2
    refine hK _ _ (.inl rfl) ?_
    clear hK K
    (refine npW (v:=?_) 10 (.inl rfl) ?_ ?_;rotate_left;(focus rintro w' _;go_simp;try rfl);simp only [aP])
    refine wpHJ_done (by kernel_rfl) ?_ _
    simp only [onlyP,Exit.then]
    clear hFa
    first | go_meet | (go_wp2_with fail;go_meet)
    case rel=>exact ⟨q3,rfl,rfl,HQ3.out,HDz.out,HNz.out,HXz.out,HTz.out⟩
 case rest =>
  obtain ⟨q3,hs3,hs4,hq3,hd,hn,hx5,ht⟩:=hcut
  subst hs3 hs4
  have HQ3:=hid hq3;have HT5:=hid ht;have HX5:=hid hx5
  have HP5:=hid (HPM.read hd hn HK1.out)
  have HB5:=hid (hn.below HBZ.out (fun i e=>e ▸ HBB.out))
  clear hq3 hd hn hx5 ht
  go_upto_region 2 with fail
  have hS:(fun W=>W.cell? ⟨b,12,none⟩=some (.int .i64 (S.step:Int))/\W.cell? ⟨q3,0,none⟩=some (.int .i64 fr)/\W.cell? ⟨q3,1,none⟩=some (.int .i64 ub)/\W.cell? ⟨q,1,none⟩=some (.int .i64 (a.2.1:Int))/\W.cell? ⟨q,2,none⟩=some (.int .i64 (a.2.2:Int))) wc.drew:=⟨HP5.rd.box.at 12 rfl,HT5.at 0 rfl,HT5.at 1 rfl,HX5.at 1 rfl,HX5.at 2 rfl⟩
  cases gb with
  | false =>
   have hx:=trivial
   have hFa:=fT
   refine rgP (fun _ _ _ h=>h) (fun W=>W.cell? ⟨b,12,none⟩=some (.int .i64 (S.step:Int))/\W.cell? ⟨q3,0,none⟩=some (.int .i64 fr)/\W.cell? ⟨q3,1,none⟩=some (.int .i64 ub)/\W.cell? ⟨q,1,none⟩=some (.int .i64 (a.2.1:Int))/\W.cell? ⟨q,2,none⟩=some (.int .i64 (a.2.2:Int))) 22 (by kernel_rfl) ?_
   simp only [zP,Nat.reduceAdd]
   iterate 21 (refine wpHJ_nx (v:=?_) 22 rfl rfl (by kernel_rfl) onlyP_put hS ?_ ?_;rotate_left;(focus first | (refine Or.inr ⟨?_,?_⟩;(focus (simp [Region.wanted,yielded,undef];done));rfl) | (refine Or.inl ⟨?_,?_⟩;(focus (simp [Region.wanted,yielded,undef];done));rintro w' ⟨s0,s1,s2,s3,s4⟩;go_simp;try rfl));simp only [aP])
   refine oy 21 fun K hK=>?_
   go_simp
   (with_reducible refine (callsIn_wide.2 (pneed_any _ ((a.2.1:Int),(a.2.2:Int)) _ _)).mono ?_)
   rintro e w6 ⟨hb,⟨hc,rfl⟩ | ⟨hc,rfl⟩⟩
   ·exact absurd hc (by simp [hx])
   ·exact ⟨rfl,(HB5.drew).trans (hb.mono HP5.size),.inl ⟨_,by (rw [<- HRR.out];exact dec_no HDEC.out HST.out (by first | (intro h;exact absurd h.1 (by decide)) | (intro h;exact hx h.2.1))),rfl⟩⟩
  | true =>
  by_cases hge:fr<=(S.step:Int)
  rotate_left
  ·skip
   have hFa:=fT
   refine rgP (fun _ _ _ h=>h) (fun W=>W.cell? ⟨b,12,none⟩=some (.int .i64 (S.step:Int))/\W.cell? ⟨q3,0,none⟩=some (.int .i64 fr)/\W.cell? ⟨q3,1,none⟩=some (.int .i64 ub)/\W.cell? ⟨q,1,none⟩=some (.int .i64 (a.2.1:Int))/\W.cell? ⟨q,2,none⟩=some (.int .i64 (a.2.2:Int))) 22 (by kernel_rfl) ?_
   simp only [zP,Nat.reduceAdd]
   iterate 21 (refine wpHJ_nx (v:=?_) 22 rfl rfl (by kernel_rfl) onlyP_put hS ?_ ?_;rotate_left;(focus first | (refine Or.inr ⟨?_,?_⟩;(focus (simp [Region.wanted,yielded,undef,hge];done));rfl) | (refine Or.inl ⟨?_,?_⟩;(focus (simp [Region.wanted,yielded,undef,hge];done));rintro w' ⟨s0,s1,s2,s3,s4⟩;go_simp;try rfl));simp only [aP])
   refine oy 21 fun K hK=>?_
   go_simp
   (with_reducible refine (callsIn_wide.2 (pneed_any _ ((a.2.1:Int),(a.2.2:Int)) _ _)).mono ?_)
   rintro e w6 ⟨hb,⟨hc,rfl⟩ | ⟨hc,rfl⟩⟩
   ·exact absurd hc (by simp [hge])
   ·exact ⟨rfl,(HB5.drew).trans (hb.mono HP5.size),.inl ⟨_,by (rw [<- HRR.out];exact dec_no HDEC.out HST.out (by first | (intro h;exact absurd h.1 (by decide)) | (intro h;exact hge h.2.1))),rfl⟩⟩
  ·skip
   have hFa:=fT
   refine rgP (fun _ _ _ h=>h) (fun W=>W.cell? ⟨b,12,none⟩=some (.int .i64 (S.step:Int))/\W.cell? ⟨q3,0,none⟩=some (.int .i64 fr)/\W.cell? ⟨q3,1,none⟩=some (.int .i64 ub)/\W.cell? ⟨q,1,none⟩=some (.int .i64 (a.2.1:Int))/\W.cell? ⟨q,2,none⟩=some (.int .i64 (a.2.2:Int))) 22 (by kernel_rfl) ?_
   simp only [zP,Nat.reduceAdd]
   iterate 21 (refine wpHJ_nx (v:=?_) 22 rfl rfl (by kernel_rfl) onlyP_put hS ?_ ?_;rotate_left;(focus refine Or.inl ⟨by simp [Region.wanted,yielded,undef,hge],?_⟩;rintro w' ⟨s0,s1,s2,s3,s4⟩;go_simp;try rfl);simp only [aP])
   refine oy 21 fun K hK=>?_
   go_simp
   (with_reducible refine (callsIn_wide.2 (pneed_any _ ((a.2.1:Int),(a.2.2:Int)) _ _)).mono ?_)
   rintro e w6 ⟨hb,⟨hc,rfl⟩ | ⟨hc,rfl⟩⟩
   rotate_left
   ·exact ⟨rfl,(HB5.drew).trans (hb.mono HP5.size),.inl ⟨_,by (rw [<- HRR.out];exact dec_no HDEC.out HST.out (fun h=>by simp at hc;omega)),rfl⟩⟩
   have HLE2:=hid (show (S.step:Int)<=ub from by simpa using hc)
   have HP6:=hid (HP5.dr.below hb)
   have HB6:=hid (HB5.drew.trans (hb.mono HP5.size))
   have HT6:=hid ((HT5.bel (Below.refl _ _).drew).bel hb)
   have HX6:=hid ((HX5.bel (Below.refl _ _).drew).bel hb)
   have hS6:(fun W=>W.cell? ⟨b,12,none⟩=some (.int .i64 (S.step:Int))/\W.cell? ⟨q3,0,none⟩=some (.int .i64 fr)/\W.cell? ⟨q3,1,none⟩=some (.int .i64 ub)/\W.cell? ⟨q,1,none⟩=some (.int .i64 (a.2.1:Int))/\W.cell? ⟨q,2,none⟩=some (.int .i64 (a.2.2:Int))) w6:=⟨HP6.rd.box.at 12 rfl,HT6.at 0 rfl,HT6.at 1 rfl,HX6.at 1 rfl,HX6.at 2 rfl⟩
   clear hb hc hS
   refine hK _ _ (.inr (.inr hS6)) (dN ?_)
   clear hK K
   simp only [onlyP,Exit.then]
   clear hFa
   clear hS6
   have HGE:=hid hge
   clear hge
   have t2':=HT6.at 2 rfl
   rcases HDEC.out with ⟨h,_,h2,h3,h4⟩ | ⟨h,_,h2,h3,h4⟩ | ⟨h,_,h2,h3,h4⟩ | ⟨h,_,h2,h3,h4⟩ | ⟨h,_,h2,h3,h4⟩ | ⟨_,h1,_⟩
   ·have HMD:=hid (show declareP S a r=widthD S (fpos ws) (ws.drop k1) from by rw [<- HRR.out,HFP.out];exact dec_kWidth h (by have:=HGE.out;omega) (by have:=HLE2.out;omega))
    rw [h4] at t2'
    clear h h2 h3 h4
    go_wp2_with (go_at_call 179;(with_reducible refine (pwidth_any HP6.out HW.out HOK.out).mono ?_);rintro e w7 ⟨hb,⟨f1,hm,rfl⟩ | ⟨S',O',k',hm,rfl,hp'⟩⟩;(focus (exact ⟨rfl,HB6.out.trans hb,.inl ⟨f1,by rw [HMD.out];exact hm,rfl⟩⟩));have HB7:=hid (HB6.out.trans hb);have HM7:=hid hm;have HP7:=hid hp';clear hb hm hp' t2')
    first | go_end0 | refine bodyPost_ret (results_none rfl _ _ _) rfl ?_
    exact ⟨HB7.out,.inr ⟨S',O',k',by rw [HMD.out];exact HM7.out,rfl,HP7.out⟩⟩
   ·have HMD:=hid (show declareP S a r=chanD S (fpos ws) (ws.drop k1) from by rw [<- HRR.out,HFP.out];exact dec_kChan h (by have:=HGE.out;omega) (by have:=HLE2.out;omega))
    rw [h4] at t2'
    clear h h2 h3 h4
    go_wp2_with (go_at_call 180;(with_reducible refine (pchannel_any HP6.out HW.out HOK.out).mono ?_);rintro e w7 ⟨hb,⟨f1,hm,rfl⟩ | ⟨S',O',k',hm,rfl,hp'⟩⟩;(focus (exact ⟨rfl,HB6.out.trans hb,.inl ⟨f1,by rw [HMD.out];exact hm,rfl⟩⟩));have HB7:=hid (HB6.out.trans hb);have HM7:=hid hm;have HP7:=hid hp';clear hb hm hp' t2')
    first | go_end0 | refine bodyPost_ret (results_none rfl _ _ _) rfl ?_
    exact ⟨HB7.out,.inr ⟨S',O',k',by rw [HMD.out];exact HM7.out,rfl,HP7.out⟩⟩
   ·have HMD:=hid (show declareP S a r=arrayD S (fpos ws) (ws.drop k1) from by rw [<- HRR.out,HFP.out];exact dec_kArray h (by have:=HGE.out;omega) (by have:=HLE2.out;omega))
    rw [h4] at t2'
    clear h h2 h3 h4
    go_wp2_with (go_at_call 181;(with_reducible refine (parray_any HP6.out HW.out HOK.out).mono ?_);rintro e w7 ⟨hb,⟨f1,hm,rfl⟩ | ⟨S',O',k',hm,rfl,hp'⟩⟩;(focus (exact ⟨rfl,HB6.out.trans hb,.inl ⟨f1,by rw [HMD.out];exact hm,rfl⟩⟩));have HB7:=hid (HB6.out.trans hb);have HM7:=hid hm;have HP7:=hid hp';clear hb hm hp' t2')
    first | go_end0 | refine bodyPost_ret (results_none rfl _ _ _) rfl ?_
    exact ⟨HB7.out,.inr ⟨S',O',k',by rw [HMD.out];exact HM7.out,rfl,HP7.out⟩⟩
   ·have HMD:=hid (show declareP S a r=funcD S (fpos ws) (ws.drop k1) from by rw [<- HRR.out,HFP.out];exact dec_kFunc h (by have:=HGE.out;omega) (by have:=HLE2.out;omega))
    rw [h4] at t2'
    clear h h2 h3 h4
    go_wp2_with (go_at_call 182;(with_reducible refine (pfunction_any HP6.out HW.out HOK.out HIN.out).mono ?_);rintro e w7 ⟨hb,⟨f1,hm,rfl⟩ | ⟨S',O',k',hm,rfl,hp'⟩⟩;(focus (exact ⟨rfl,HB6.out.trans hb,.inl ⟨f1,by rw [HMD.out];exact hm,rfl⟩⟩));have HB7:=hid (HB6.out.trans hb);have HM7:=hid hm;have HP7:=hid hp';clear hb hm hp' t2')
    first | go_end0 | refine bodyPost_ret (results_none rfl _ _ _) rfl ?_
    exact ⟨HB7.out,.inr ⟨S',O',k',by rw [HMD.out];exact HM7.out,rfl,HP7.out⟩⟩
   ·have HMD:=hid (show declareP S a r=mainD S (ws.drop k1) from by rw [<- HRR.out];exact dec_kMain h (by have:=HGE.out;omega) (by have:=HLE2.out;omega))
    rw [h4] at t2'
    clear h h2 h3 h4
    go_wp2_with (go_at_call 183;(with_reducible refine (pmain_any HP6.out HW.out HOK.out HIN.out).mono ?_);rintro e w7 ⟨hb,⟨f1,hm,rfl⟩ | ⟨S',O',k',hm,rfl,hp'⟩⟩;(focus (exact ⟨rfl,HB6.out.trans hb,.inl ⟨f1,by rw [HMD.out];exact hm,rfl⟩⟩));have HB7:=hid (HB6.out.trans hb);have HM7:=hid hm;have HP7:=hid hp';clear hb hm hp' t2')
    first | go_end0 | refine bodyPost_ret (results_none rfl _ _ _) rfl ?_
    exact ⟨HB7.out,.inr ⟨S',O',k',by rw [HMD.out];exact HM7.out,rfl,HP7.out⟩⟩
   ·cases h1
end Go.Proofs.YtoofbgoeipijcaaGreatDoor
