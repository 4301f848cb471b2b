/-
 A part.
-/
import Derived.Test.YtoofbgoeipijcaaGreatDoorVB20
namespace Go.Proofs.YtoofbgoeipijcaaGreatDoor
set_option linter.all false
open Go.RowKit Go.Shelf
attribute [local go_sem] Oper.semAt_some
set_option maxRecDepth 100000 in
set_option maxHeartbeats 4000000 in
theorem pfunction_any {B b:Nat} {O:Nat->Value} {pw:Option Addr} {cw:Nat} {ws:List Wd} {S:PS} {k:Nat} {w:World} (hp:Pm B b O pw cw ws S k w) (hw:WOk ws) (hok:SOk S) (hin:S.inn=0):Calls Tryz.prog 182 #[.pointer (some ⟨b,0,none⟩)] w (InsP B b pw cw ws (funcD S (fpos ws) (ws.drop k)) w):=by
 have hd:=hp.rd
 have hk:=hp.le
 have hB:=hp.ge
 have HPM:=hid hp;have HOK:=hid hok
 clear hp hok
 have HD:=hid hd;have HW:=hid hw;have HBB:=hid hB;have HLE:=hid hk;have HSZ:=hid hd.box.lt
 have HBZ:=hid (show B<=w.heap.size from Nat.le_of_lt (Nat.lt_of_le_of_lt hB hd.box.lt))
 clear hd hw hB hk
 have HIN:=hid hin
 clear hin
 obtain ⟨pn,cn,hON⟩:=HPM.rs.fn.slc
 obtain ⟨FN,hFN⟩:∃ l,S.p.funcs.map Fu.nm=l:=⟨_,rfl⟩
 rw [hFN] at hON
 have HON:=hid hON;have HFN:=hid hFN
 clear hON hFN
 obtain ⟨pl,cl,hO⟩:=HPM.rs.fu.slc
 have HO:=hid hO
 have hS:(fun W=>W.cell? ⟨b,3,none⟩=some (.slice pl S.p.funcs.length cl)) w.drew:=by rw [<- hO];exact HD.box.at 3 rfl
 clear hO
 go_enter Tryz.func182,Tryz.ntmps182
 go_upto_region 0 with fail
 have hFa:=fT
 refine rgP (fun _ _ _ h=>h) (fun W=>W.cell? ⟨b,3,none⟩=some (.slice pl S.p.funcs.length cl)) 10 (by kernel_rfl) ?_
 simp only [zP,Nat.reduceAdd]
 iterate 8 (refine nxW (v:=?_) 10 hS ?_ ?_;rotate_left;(focus rintro w' s0;go_simp;try rfl);simp only [aP])
 refine oy 8 fun K hK=>?_
 go_simp
 (with_reducible refine (callsIn_wide.2 (first_any (HD.out.below (Below.refl _ _).drew) HW.out)).mono ?_)
 rintro e w2 ⟨rfl,hb⟩
 have HP2:=hid (HPM.dr.below hb)
 have HB2:=hid ((Below.refl B w).drew.trans (hb.mono HBZ.out))
 have HN2:=hid ((But.refl (fun i=>i=b) w).dr.trans (But.of_below _ hb))
 have hS2:(fun W=>W.cell? ⟨b,3,none⟩=some (.slice pl S.p.funcs.length cl)) w2:=by rw [<- HO.out];exact HP2.rd.box.at 3 rfl
 clear hb hS
 refine hK _ _ (.inr (.inr hS2)) ?_
 clear hK K
 refine oy 9 fun K hK=>?_
 go_simp
 (with_reducible refine (callsIn_wide.2 (pneed_any _ (fpos ws) _ _)).mono ?_)
 rintro e w3 ⟨hb,⟨hc,rfl⟩ | ⟨hc,rfl⟩⟩
 rotate_left
 ·exact ⟨rfl,HB2.trans (hb.mono HP2.size),.inl ⟨_,func_long (by have h:=hc;simp at h;omega),rfl⟩⟩
 have HLT:=hid (show S.p.funcs.length<32 from by have h:=hc;simp at h;omega)
 have HP3:=hid (HP2.below hb)
 have HB3:=hid (HB2.trans (hb.mono HP2.size))
 have HN3:=hid (HN2.trans (But.of_below _ hb))
 have hS3:(fun W=>W.cell? ⟨b,3,none⟩=some (.slice pl S.p.funcs.length cl)) w3:=by rw [<- HO.out];exact HP3.rd.box.at 3 rfl
 clear hb hc hS2
 refine hK _ _ (.inr (.inr hS3)) (dN ?_)
 clear hK K
 simp only [onlyP,Exit.then]
 clear hFa
 clear hS3
 go_upto_region 1 with fail
 have HME:=hid (func_eq (S:=S) (f:=fpos ws) (r:=ws.drop k) HLT.out)
 have HLA:=hid (show FN.length<32 from by rw [<- HFN.out,List.length_map];exact HLT.out)
 go_cut [2] (fun s2 wx=>∃ q s k4,s2=.pointer (some ⟨q,0,none⟩)/\freshP (fpos ws) FN (ws.drop k)=.ok (s,ws.drop k4)/\k4<=ws.length/\w.heap.size<=q/\Rd b O S.p.width pw cw S.inn S.step ws k4 wx/\But (fun i=>i=b) w wx/\BxL 74 q [.string ⟨s.toArray⟩,.slice none 0 0,.slice none 0 0,.int .i64 (fpos ws).1,.int .i64 (fpos ws).2] wx)
 case first =>
  have HDw3:=hid HP3.rd;have HNw3:=hid HN3.out
  have hS:(fun W=>W.cell? ⟨b,8,none⟩=some (.slice pn FN.length cn)) w3.drew:=by rw [<- HON.out];exact HP3.dr.rd.box.at 8 rfl
  have hFa:=fT
  refine rgP (fun _ _ _ h=>h) (fun W=>W.cell? ⟨b,8,none⟩=some (.slice pn FN.length cn)) 10 (by kernel_rfl) ?_
  simp only [zP,Nat.reduceAdd]
  (refine nxW (v:=?_) 11 hS ?_ ?_;rotate_left;(focus rintro w' s0;go_simp;try rfl);simp only [aP])
  (refine nxW (v:=?_) 12 hS ?_ ?_;rotate_left;(focus rintro w' s0;go_simp;try rfl);simp only [aP])
  (refine nxW (v:=?_) 12 hS ?_ ?_;rotate_left;(focus rintro w' s0;go_simp;try rfl);simp only [aP])
  (refine nxW (v:=?_) 12 hS ?_ ?_;rotate_left;(focus rintro w' s0;go_simp;try rfl);simp only [aP])
  (refine nxW (v:=?_) 12 hS ?_ ?_;rotate_left;(focus rintro w' s0;go_simp;try rfl);simp only [aP])
  (refine nxW (v:=?_) 12 hS ?_ ?_;rotate_left;(focus rintro w' s0;go_simp;try rfl);simp only [aP])
  refine wpHJ_both 1 9 (by kernel_rfl) rfl rfl (fun K hK=>?_) (fun K hK=>?_)
  ·go_simp
   (with_reducible refine (callsIn_wide.2 (first_any (HDw3.out.below (Below.refl _ _).drew) HW.out)).mono ?_)
   rintro e v1 ⟨he,hb⟩
   obtain rfl:e=.returned (.agg #[.int .i64 (fpos ws).1,.int .i64 (fpos ws).2]):=he
   have HDv1:=hid ((HDw3.below (Below.refl _ _).drew).below hb)
   have HNv1:=hid (HNw3.dr.trans (But.of_below _ hb))
   have hSv1:(fun W=>W.cell? ⟨b,8,none⟩=some (.slice pn FN.length cn)) v1:=by rw [<- HON.out];exact HDv1.box.at 8 rfl
   clear hb
   refine hK _ _ (.inr (.inr hSv1)) ?_
   clear hK K
   refine wpHJ_both 7 9 (by kernel_rfl) rfl rfl (fun K hK=>?_) (fun K hK=>?_)
   ·go_simp
    (with_reducible refine (callsIn_wide.2 (pfresh_any HDv1.out HLE.out HW.out HBB.out (show SlG kStr (fun i=>i<v1.heap.size/\i ≠ b) v1 (.slice pn FN.length cn) FN from by
     rw [<- HON.out]
     have h:=(HPM.out.read HDv1.out HNv1.out HLE.out).rs.fn
     rw [HFN.out] at h
     exact h.slb (by have:=HLA.out;omega) (HPM.out.own 8)) (fun i hi=>hi))).mono ?_)
    rintro e v1_7 ⟨hb,⟨f1,hm,rfl⟩ | ⟨s,k4,v,hm,hk,rfl,hv,hd,hn⟩⟩
    ·exact ⟨rfl,(HNv1.below HBZ.out (fun i e=>e ▸ HBB.out)).trans hb,.inl ⟨f1,by (rw [HME.out,HFN.out,hm];rfl),rfl⟩⟩
    obtain rfl:v=.string ⟨s.toArray⟩:=hv
    have HM:=hid hm;have HK:=hid hk
    have HDv1_7:=hid hd
    have HNv1_7:=hid (HNv1.trans hn)
    have hSv1_7:(fun W=>W.cell? ⟨b,8,none⟩=some (.slice pn FN.length cn)) v1_7:=by rw [<- HON.out];exact HDv1_7.box.at 8 rfl
    clear hb hm hk hd hn
    refine hK _ _ (.inr (.inr hSv1_7)) ?_
    clear hK K
    (refine nxW (v:=?_) 11 hSv1_7 ?_ ?_;rotate_left;(focus rintro w' s0;go_simp;try rfl);simp only [aP])
    refine oy 9 fun K hK=>?_
    go_simp
    generalize hw:World.alloc _ _=v1_7_9
    have HDv1_7_9:=hid (show Rd b O S.p.width pw cw S.inn S.step ws k4 v1_7_9 from by rw [<- hw];exact (HDv1_7.al _))
    have HNv1_7_9:=hid (show But (fun i=>i=b) w v1_7_9 from by rw [<- hw];exact (HNv1_7.al _))
    have HTv1_7_9:=hid (show BxL 74 v1_7.heap.size [.string ⟨#[]⟩,.slice none 0 0,.slice none 0 0,.int .i64 0,.int .i64 0] v1_7_9 from by rw [<- hw];exact BxL.new _ _ _)
    have HQ:=hid (show w.heap.size<=v1_7.heap.size from HNv1_7.size)
    clear hw
    generalize hq:v1_7.heap.size=q at HTv1_7_9 HQ ⊢
    clear hq
    have hSv1_7_9:(fun W=>W.cell? ⟨b,8,none⟩=some (.slice pn FN.length cn)) v1_7_9:=by rw [<- HON.out];exact HDv1_7_9.box.at 8 rfl
    refine hK _ _ (.inr (.inr hSv1_7_9)) ?_
    clear hK K
    refine oy 10 fun K hK=>?_
    obtain ⟨t0,t1,t2,t3,t4⟩:=HTv1_7_9.p5
    have f0:=HTv1_7_9.fr 0;have f1:=HTv1_7_9.fr 1;have f2:=HTv1_7_9.fr 2;have f3:=HTv1_7_9.fr 3;have f4:=HTv1_7_9.fr 4
    go_simp
    generalize hw:World.setCell _ _ _=wz
    have hbq:b<q:=by have:=HSZ.out;have:=HQ.out;omega
    have HDz:=hid (show Rd b O S.p.width pw cw S.inn S.step ws k4 wz from by rw [<- hw];exact (((((HDv1_7_9.other _ hbq).other _ hbq).other _ hbq).other _ hbq).other _ hbq))
    have HNz:=hid (show But (fun i=>i=b) w wz from by rw [<- hw];exact (((((HNv1_7_9.setC _ (.inr HQ.out)).setC _ (.inr HQ.out)).setC _ (.inr HQ.out)).setC _ (.inr HQ.out)).setC _ (.inr HQ.out)))
    have HTz:=hid (show BxL 74 q [.string ⟨s.toArray⟩,.slice none 0 0,.slice none 0 0,.int .i64 (fpos ws).1,.int .i64 (fpos ws).2] wz from by rw [<- hw];exact (((((HTv1_7_9.set 0 _).set 1 _).set 2 _).set 3 _).set 4 _))
    clear hw hbq t0 t1 t2 t3 t4 f0 f1 f2 f3 f4
    refine hK _ _ (.inl rfl) (dN ?_)
    clear hK K
    simp only [onlyP,Exit.then]
    clear hFa
    first | go_meet | (go_wp2_with fail;go_meet)
    case rel=>exact ⟨q,s,k4,rfl,HM.out,HK.out,HQ.out,HDz.out,HNz.out,HTz.out⟩
   ·go_simp
    generalize hw:World.alloc _ _=v1_9
    have HDv1_9:=hid (show Rd b O S.p.width pw cw S.inn S.step ws k v1_9 from by rw [<- hw];exact (HDv1.al _))
    have HNv1_9:=hid (show But (fun i=>i=b) w v1_9 from by rw [<- hw];exact (HNv1.al _))
    have HTv1_9:=hid (show BxL 74 v1.heap.size [.string ⟨#[]⟩,.slice none 0 0,.slice none 0 0,.int .i64 0,.int .i64 0] v1_9 from by rw [<- hw];exact BxL.new _ _ _)
    have HQ:=hid (show w.heap.size<=v1.heap.size from HNv1.size)
    clear hw
    generalize hq:v1.heap.size=q at HTv1_9 HQ ⊢
    clear hq
    have hSv1_9:(fun W=>W.cell? ⟨b,8,none⟩=some (.slice pn FN.length cn)) v1_9:=by rw [<- HON.out];exact HDv1_9.box.at 8 rfl
    refine hK _ _ (.inr (.inr hSv1_9)) ?_
    clear hK K
    refine oy 7 fun K hK=>?_
    go_simp
    (with_reducible refine (callsIn_wide.2 (pfresh_any HDv1_9.out HLE.out HW.out HBB.out (show SlG kStr (fun i=>i<v1_9.heap.size/\i ≠ b) v1_9 (.slice pn FN.length cn) FN from by
     rw [<- HON.out]
     have h:=(HPM.out.read HDv1_9.out HNv1_9.out HLE.out).rs.fn
     rw [HFN.out] at h
     exact h.slb (by have:=HLA.out;omega) (HPM.out.own 8)) (fun i hi=>hi))).mono ?_)
    rintro e v1_9_7 ⟨hb,⟨f1,hm,rfl⟩ | ⟨s,k4,v,hm,hk,rfl,hv,hd,hn⟩⟩
    ·exact ⟨rfl,(HNv1_9.below HBZ.out (fun i e=>e ▸ HBB.out)).trans hb,.inl ⟨f1,by (rw [HME.out,HFN.out,hm];rfl),rfl⟩⟩
    obtain rfl:v=.string ⟨s.toArray⟩:=hv
    have HM:=hid hm;have HK:=hid hk
    have HDv1_9_7:=hid hd
    have HNv1_9_7:=hid (HNv1_9.trans hn)
    have HTv1_9_7:=hid (HTv1_9.but hn (by have:=HSZ.out;have:=HQ.out;omega))
    have hSv1_9_7:(fun W=>W.cell? ⟨b,8,none⟩=some (.slice pn FN.length cn)) v1_9_7:=by rw [<- HON.out];exact HDv1_9_7.box.at 8 rfl
    clear hb hm hk hd hn
    refine hK _ _ (.inr (.inr hSv1_9_7)) ?_
    clear hK K
    (refine nxW (v:=?_) 10 hSv1_9_7 ?_ ?_;rotate_left;(focus rintro w' s0;go_simp;try rfl);simp only [aP])
    refine oy 10 fun K hK=>?_
    obtain ⟨t0,t1,t2,t3,t4⟩:=HTv1_9_7.p5
    have f0:=HTv1_9_7.fr 0;have f1:=HTv1_9_7.fr 1;have f2:=HTv1_9_7.fr 2;have f3:=HTv1_9_7.fr 3;have f4:=HTv1_9_7.fr 4
    go_simp
    generalize hw:World.setCell _ _ _=wz
    have hbq:b<q:=by have:=HSZ.out;have:=HQ.out;omega
    have HDz:=hid (show Rd b O S.p.width pw cw S.inn S.step ws k4 wz from by rw [<- hw];exact (((((HDv1_9_7.other _ hbq).other _ hbq).other _ hbq).other _ hbq).other _ hbq))
    have HNz:=hid (show But (fun i=>i=b) w wz from by rw [<- hw];exact (((((HNv1_9_7.setC _ (.inr HQ.out)).setC _ (.inr HQ.out)).setC _ (.inr HQ.out)).setC _ (.inr HQ.out)).setC _ (.inr HQ.out)))
    have HTz:=hid (show BxL 74 q [.string ⟨s.toArray⟩,.slice none 0 0,.slice none 0 0,.int .i64 (fpos ws).1,.int .i64 (fpos ws).2] wz from by rw [<- hw];exact (((((HTv1_9_7.set 0 _).set 1 _).set 2 _).set 3 _).set 4 _))
    clear hw hbq t0 t1 t2 t3 t4 f0 f1 f2 f3 f4
    refine hK _ _ (.inl rfl) (dN ?_)
    clear hK K
    simp only [onlyP,Exit.then]
    clear hFa
    first | go_meet | (go_wp2_with fail;go_meet)
    case rel=>exact ⟨q,s,k4,rfl,HM.out,HK.out,HQ.out,HDz.out,HNz.out,HTz.out⟩
  ·go_simp
   generalize hw:World.drew (World.alloc _ _)=v9
   have HDv9:=hid (show Rd b O S.p.width pw cw S.inn S.step ws k v9 from by rw [<- hw];exact (HDw3.al _).below (Below.refl _ _).drew)
   have HNv9:=hid (show But (fun i=>i=b) w v9 from by rw [<- hw];exact (HNw3.al _).dr)
   have HTv9:=hid (show BxL 74 w3.heap.size [.string ⟨#[]⟩,.slice none 0 0,.slice none 0 0,.int .i64 0,.int .i64 0] v9 from by rw [<- hw];exact (BxL.new _ _ _).bel (Below.refl _ _).drew)
   have HQ:=hid (show w.heap.size<=w3.heap.size from HNw3.size)
   clear hw
   generalize hq:w3.heap.size=q at HTv9 HQ ⊢
   clear hq
   have hSv9:(fun W=>W.cell? ⟨b,8,none⟩=some (.slice pn FN.length cn)) v9:=by rw [<- HON.out];exact HDv9.box.at 8 rfl
   refine hK _ _ (.inr (.inr hSv9)) ?_
   clear hK K
   refine oy 1 fun K hK=>?_
   go_simp
   (with_reducible refine (callsIn_wide.2 (first_any (HDv9.out) HW.out)).mono ?_)
   rintro e v9_1 ⟨he,hb⟩
   obtain rfl:e=.returned (.agg #[.int .i64 (fpos ws).1,.int .i64 (fpos ws).2]):=he
   have HDv9_1:=hid ((HDv9.out).below hb)
   have HNv9_1:=hid (HNv9.trans (But.of_below _ hb))
   have HTv9_1:=hid (HTv9.bel hb)
   have hSv9_1:(fun W=>W.cell? ⟨b,8,none⟩=some (.slice pn FN.length cn)) v9_1:=by rw [<- HON.out];exact HDv9_1.box.at 8 rfl
   clear hb
   refine hK _ _ (.inr (.inr hSv9_1)) ?_
   clear hK K
   refine oy 7 fun K hK=>?_
   go_simp
   (with_reducible refine (callsIn_wide.2 (pfresh_any HDv9_1.out HLE.out HW.out HBB.out (show SlG kStr (fun i=>i<v9_1.heap.size/\i ≠ b) v9_1 (.slice pn FN.length cn) FN from by
    rw [<- HON.out]
    have h:=(HPM.out.read HDv9_1.out HNv9_1.out HLE.out).rs.fn
    rw [HFN.out] at h
    exact h.slb (by have:=HLA.out;omega) (HPM.out.own 8)) (fun i hi=>hi))).mono ?_)
   rintro e v9_1_7 ⟨hb,⟨f1,hm,rfl⟩ | ⟨s,k4,v,hm,hk,rfl,hv,hd,hn⟩⟩
   ·exact ⟨rfl,(HNv9_1.below HBZ.out (fun i e=>e ▸ HBB.out)).trans hb,.inl ⟨f1,by (rw [HME.out,HFN.out,hm];rfl),rfl⟩⟩
   obtain rfl:v=.string ⟨s.toArray⟩:=hv
   have HM:=hid hm;have HK:=hid hk
   have HDv9_1_7:=hid hd
   have HNv9_1_7:=hid (HNv9_1.trans hn)
   have HTv9_1_7:=hid (HTv9_1.but hn (by have:=HSZ.out;have:=HQ.out;omega))
   have hSv9_1_7:(fun W=>W.cell? ⟨b,8,none⟩=some (.slice pn FN.length cn)) v9_1_7:=by rw [<- HON.out];exact HDv9_1_7.box.at 8 rfl
   clear hb hm hk hd hn
   refine hK _ _ (.inr (.inr hSv9_1_7)) ?_
   clear hK K
   (refine nxW (v:=?_) 10 hSv9_1_7 ?_ ?_;rotate_left;(focus rintro w' s0;go_simp;try rfl);simp only [aP])
   refine oy 10 fun K hK=>?_
   obtain ⟨t0,t1,t2,t3,t4⟩:=HTv9_1_7.p5
   have f0:=HTv9_1_7.fr 0;have f1:=HTv9_1_7.fr 1;have f2:=HTv9_1_7.fr 2;have f3:=HTv9_1_7.fr 3;have f4:=HTv9_1_7.fr 4
   go_simp
   generalize hw:World.setCell _ _ _=wz
   have hbq:b<q:=by have:=HSZ.out;have:=HQ.out;omega
   have HDz:=hid (show Rd b O S.p.width pw cw S.inn S.step ws k4 wz from by rw [<- hw];exact (((((HDv9_1_7.other _ hbq).other _ hbq).other _ hbq).other _ hbq).other _ hbq))
   have HNz:=hid (show But (fun i=>i=b) w wz from by rw [<- hw];exact (((((HNv9_1_7.setC _ (.inr HQ.out)).setC _ (.inr HQ.out)).setC _ (.inr HQ.out)).setC _ (.inr HQ.out)).setC _ (.inr HQ.out)))
   have HTz:=hid (show BxL 74 q [.string ⟨s.toArray⟩,.slice none 0 0,.slice none 0 0,.int .i64 (fpos ws).1,.int .i64 (fpos ws).2] wz from by rw [<- hw];exact (((((HTv9_1_7.set 0 _).set 1 _).set 2 _).set 3 _).set 4 _))
   clear hw hbq t0 t1 t2 t3 t4 f0 f1 f2 f3 f4
   refine hK _ _ (.inl rfl) (dN ?_)
   clear hK K
   simp only [onlyP,Exit.then]
   clear hFa
   first | go_meet | (go_wp2_with fail;go_meet)
   case rel=>exact ⟨q,s,k4,rfl,HM.out,HK.out,HQ.out,HDz.out,HNz.out,HTz.out⟩
 case rest =>
  obtain ⟨q,s,k4,hs2,hm,hk,hq,hd,hn,ht⟩:=hcut
  subst hs2
  have HM:=hid hm;have HK:=hid hk;have HQ:=hid hq;have HDC0:=hid hd;have HNC:=hid hn;have HTC:=hid ht
  have HBQ:=hid (show b<q from by have:=HSZ.out;omega)
  have HQC:=hid (show q<wc.heap.size from ht.lt)
  have HBC:=hid (show b<wc.heap.size from by have:=HSZ.out;have:=hn.size;omega)
  clear hm hk hq hd hn ht
  have HMC:=hid (show funcD S (fpos ws) (ws.drop k)=func3 S (fpos ws) s (paramsP (fpos ws) [] (ws.drop k4)) from by rw [HME.out,HFN.out,HM.out];rfl)
  go_wp2_with fail
  go_loopg [] (ws.length+1) (fun gk wr=>∃ (kj:Nat) (l:List Bs) (v:Value),paramsP (fpos ws) [] (ws.drop k4)=paramsP (fpos ws) l (ws.drop kj)/\kj<=ws.length/\ws.length - kj+1<=gk/\gk<=ws.length+1/\l.length<=32/\GR kStr (fun _=>False) wc.heap.size 9 wr v l/\BxL 74 q [.string ⟨s.toArray⟩,v,.slice none 0 0,.int .i64 (fpos ws).1,.int .i64 (fpos ws).2] wr/\Rd b O S.p.width pw cw S.inn S.step ws kj wr/\But (fun i=>i=b\/i=q) wc wr)
  case atStart=>exact ⟨k4,[],_,rfl,HK.out,by omega,Nat.le_refl _,Nat.zero_le _,GR.nil _ _ _ _ _,HTC.out,HDC0.out,But.refl _ _⟩
  case round =>
   obtain ⟨kj,l,v,hmo,hkj,hg1,hg2,hll,hga,hbx,hdj,hnr⟩:=hrel
   obtain ⟨pv,cv,rfl⟩:=hga.slc
   obtain ⟨LL,hLL⟩:∃ n,l.length=n:=⟨_,rfl⟩
   rw [hLL] at hga hbx hll
   have HLL:=hid hLL;have HMO:=hid hmo;have HKJ:=hid hkj;have HG1:=hid hg1;have HG2:=hid hg2;have HL32:=hid hll;have HGA:=hid hga;have HBX:=hid hbx;have HDR:=hid hdj;have HNR:=hid hnr
   have HNWR:=hid (show But (fun i=>i=b) w wr from HNC.only HNR.out HQ.out)
   clear hLL hmo hkj hg1 hg2 hll hga hbx hdj hnr
   by_cases hlt:kj<ws.length
   ·obtain ⟨wb,off,hpw,hwb,hne,hc⟩:=HDR.at HW.pos
    subst hpw
    obtain ⟨x,hx⟩:∃ x,ws[kj]'hlt=x:=⟨_,rfl⟩
    have h0:=hc kj hlt
    rw [hx] at h0
    obtain ⟨h0,h1,h2⟩:=h0
    have HDX:=hid (show ws.drop kj=x :: ws.drop (kj+1) from by rw [<- hx];exact List.drop_eq_getElem_cons hlt)
    rw [HDX.out] at HMO
    have hS:(fun W=>W.cell? ⟨b,5,none⟩=some (.slice (some ⟨wb,off,none⟩) ws.length cw)/\W.cell? ⟨b,6,none⟩=some (.int .i64 (kj:Int))) wr.drew:=⟨HDR.box.at 5 rfl,HDR.box.at 6 rfl⟩
    have HH1:=hid h1;have HH2:=hid h2
    have HLJ:=hid hlt
    clear hc hx h0 h1 h2
    go_upto_region 2 with fail
    have hFa:=fT
    refine rgN (fun W=>W.cell? ⟨b,5,none⟩=some (.slice (some ⟨wb,off,none⟩) ws.length cw)/\W.cell? ⟨b,6,none⟩=some (.int .i64 (kj:Int))) 10 (by kernel_rfl) ?_
    simp only [zP,Nat.reduceAdd]
    iterate 10 (refine nxW (v:=?_) 10 hS ?_ ?_;rotate_left;(focus rintro w' ⟨s0,s1⟩;go_simp;try rfl);simp only [aP])
    refine wpHJ_done (by kernel_rfl) ?_ _
    simp only [onlyN,Exit.then]
    clear hFa
    clear hS
    go_upto_region 3 with fail
    generalize hw:wr.drew=wa
    have HDA:=hid (show Rd b O S.p.width (some ⟨wb,off,none⟩) cw S.inn S.step ws kj wa from by rw [<- hw];exact HDR.below (Below.refl _ _).drew)
    have HNRA:=hid (show But (fun i=>i=b\/i=q) wc wa from by rw [<- hw];exact HNR.dr)
    have HBXA:=hid (show BxL 74 q [.string ⟨s.toArray⟩,.slice pv LL cv,.slice none 0 0,.int .i64 (fpos ws).1,.int .i64 (fpos ws).2] wa from by rw [<- hw];exact HBX.bel (Below.refl _ _).drew)
    have HGAA:=hid (show GR kStr (fun _=>False) wc.heap.size 9 wa (.slice pv LL cv) l from by rw [<- hw];exact HGA.strF fun j hj=>rfl)
    have hS:(fun W=>W.cell? ⟨b,5,none⟩=some (.slice (some ⟨wb,off,none⟩) ws.length cw)/\W.cell? ⟨b,6,none⟩=some (.int .i64 (kj:Int))/\W.cell? ⟨q,1,none⟩=some (.slice pv LL cv)/\W.cell? ⟨wb,off+kj*3+1,none⟩=some (.int .i64 (x.2.1:Int))/\W.cell? ⟨wb,off+kj*3+2,none⟩=some (.int .i64 (x.2.2:Int))) wa.drew:=⟨HDA.box.at 5 rfl,HDA.box.at 6 rfl,HBXA.at 1 rfl,by rw [<- hw];exact HH1.out,by rw [<- hw];exact HH2.out⟩
    have wk:IntKind.i64.wrap (kj:Int)=(kj:Int):=IntWalk.i64_in _ (by have:=HW.len;omega)
    clear hw
    have hFa:=fT
    refine rgP (fun _ _ _ h=>h) (fun W=>W.cell? ⟨b,5,none⟩=some (.slice (some ⟨wb,off,none⟩) ws.length cw)/\W.cell? ⟨b,6,none⟩=some (.int .i64 (kj:Int))/\W.cell? ⟨q,1,none⟩=some (.slice pv LL cv)/\W.cell? ⟨wb,off+kj*3+1,none⟩=some (.int .i64 (x.2.1:Int))/\W.cell? ⟨wb,off+kj*3+2,none⟩=some (.int .i64 (x.2.2:Int))) 16 (by kernel_rfl) ?_
    simp only [zP,Nat.reduceAdd]
    iterate 15 (refine nxW (v:=?_) 16 hS ?_ ?_;rotate_left;(focus rintro w' ⟨s0,s1,s2,s3,s4⟩;go_simp;try rfl);simp only [aP])
    refine oy 15 fun K hK=>?_
    go_simp
    (with_reducible refine (callsIn_wide.2 (pneed_any _ ((x.2.1:Int),(x.2.2:Int)) _ _)).mono ?_)
    rintro e wb2 ⟨hb,⟨hc,rfl⟩ | ⟨hc,rfl⟩⟩
    rotate_left
    ·exact ⟨rfl,((HNC.only HNRA.out HQ.out).dr.trans (But.of_below _ hb)).below HBZ.out (fun i e=>e ▸ HBB.out),.inl ⟨_,by rw [HMC.out,HMO.out,params_long l (by rw [HLL.out];have h:=hc;simp at h ⊢;omega)];rfl,rfl⟩⟩
    have HCB:=hid hc
    have HDB:=hid ((HDA.below (Below.refl _ _).drew).below hb)
    have HNRB:=hid (HNRA.dr.trans (But.of_below _ hb))
    have HBXB:=hid ((HBXA.bel (Below.refl _ _).drew).bel hb)
    have HGB:=hid (show GR kStr (fun _=>False) wc.heap.size 9 wb2 (.slice pv LL cv) l from HGAA.strF fun j hj=>hb.block j (HGAA.lt j hj).2)
    have hSb:(fun W=>W.cell? ⟨b,5,none⟩=some (.slice (some ⟨wb,off,none⟩) ws.length cw)/\W.cell? ⟨b,6,none⟩=some (.int .i64 (kj:Int))/\W.cell? ⟨q,1,none⟩=some (.slice pv LL cv)/\W.cell? ⟨wb,off+kj*3+1,none⟩=some (.int .i64 (x.2.1:Int))/\W.cell? ⟨wb,off+kj*3+2,none⟩=some (.int .i64 (x.2.2:Int))) wb2:=⟨HDB.box.at 5 rfl,HDB.box.at 6 rfl,HBXB.at 1 rfl,cB hb hS.2.2.2.1,cB hb hS.2.2.2.2⟩
    clear hb hc hS
    refine hK _ _ (.inr (.inr hSb)) (dN ?_)
    clear hK K
    simp only [onlyP,Exit.then]
    clear hFa
    clear hSb wk
    have HL32':=hid (show LL<32 from by have h:=HCB.out;simp at h;omega)
    go_upto_region 4 with fail
    have hS:(fun W=>W.cell? ⟨q,1,none⟩=some (.slice pv LL cv)) wb2.drew:=HBXB.at 1 rfl
    clear hlt
    have hFa:=fT
    refine rgP (fun _ _ _ h=>h) (fun W=>W.cell? ⟨q,1,none⟩=some (.slice pv LL cv)) 9 (by kernel_rfl) ?_
    simp only [zP,Nat.reduceAdd]
    iterate 5 (refine nxW (v:=?_) 10 hS ?_ ?_;rotate_left;(focus rintro w' s0;go_simp;try rfl);simp only [aP])
    refine oy 5 fun K hK=>?_
    go_simp
    (with_reducible refine (callsIn_wide.2 (pfresh_any (HDB.out.below (Below.refl _ _).drew) HKJ.out HW.out HBB.out (show SlG kStr (fun i=>i<wb2.drew.heap.size/\i ≠ b) wb2.drew (.slice pv LL cv) l from (HGB.out.strF (R':=fun _=>False) (w':=wb2.drew) fun j hj=>rfl).slx (by rw [HLL.out];have:=HL32'.out;omega) (fun e=>by have:=(HGB.out.lt b e).1;have:=HBC.out;omega)) (fun i hi=>hi))).mono ?_)
    rintro e wd ⟨hb,⟨f1,hm,rfl⟩ | ⟨a,kn,v,hm,hkn,rfl,hv,hd,hn⟩⟩
    ·exact ⟨rfl,((HNC.only HNRB.out HQ.out).dr.below HBZ.out (fun i e=>e ▸ HBB.out)).trans hb,.inl ⟨f1,by rw [HMC.out,HMO.out,params_err l (by rw [HLL.out];exact HL32'.out) (by rw [<- HDX.out];exact hm)];rfl,rfl⟩⟩
    obtain rfl:v=.string ⟨a.toArray⟩:=hv
    have HMG:=hid hm;have HKN:=hid hkn;have HDC:=hid hd
    have HNRC:=hid (HNRB.dr.trans (hn.mono fun i h => .inl h))
    have HBXC:=hid ((HBXB.bel (Below.refl _ _).drew).but hn (by have:=HBQ.out;omega))
    have HGC:=hid (show GR kStr (fun _=>False) wc.heap.size 9 wd (.slice pv LL cv) l from HGB.strF fun j hj=>hn.block j (HGB.lt j hj).2 (by have:=(HGB.lt j hj).1;have:=HBC.out;omega))
    have hSc:(fun W=>W.cell? ⟨q,1,none⟩=some (.slice pv LL cv)) wd:=HBXC.at 1 rfl
    clear hb hm hkn hd hn hS
    refine hK _ _ (.inr (.inr hSc)) ?_
    clear hK K
    refine oy 6 fun K hK=>?_
    go_simp
    generalize hw:World.alloc _ _=we
    have HBD:=hid (show Below wd.heap.size wd we from by rw [<- hw];exact bA)
    have HYD:=hid (show BxL 9 wd.heap.size [.string ⟨a.toArray⟩] we from by rw [<- hw];exact BxL.new _ _ _)
    have HGD:=hid (show GR kStr (fun _=>False) wc.heap.size 9 we (.slice pv LL cv) l from HGC.strF fun j hj=>HBD.block j (HGC.lt j hj).2)
    have hSd:(fun W=>W.cell? ⟨q,1,none⟩=some (.slice pv LL cv)) we:=(HBXC.bel HBD.out).at 1 rfl
    clear hw hSc
    refine hK _ _ (.inr (.inr hSd)) ?_
    clear hK K
    refine oy 7 fun K hK=>?_
    refine wpIn_pushB (R:=fun _=>False) (B:=wc.heap.size) (K:=kStr) (x:=a) (l:=l) (cs:=[.string ⟨a.toArray⟩]) (te:=9) hFa (.tmp 49) (.tmp 54) 22 rfl Tryz.underlying22 _ 16 info_str rfl HGD.out (fun i hi=>hi.elim) rfl HYD.out (by rfl) (by rfl) (by have:=HL32'.out;have:=HLL.out;omega) (by have:=HL32'.out;have:=HLL.out;unfold maxLen;omega) (Nat.le_trans HNRC.size HBD.size) ?_
    intro v' wf hge hgr hme
    obtain ⟨pe,ce,hve⟩:=hge.slc
    obtain ⟨ne,hne⟩:∃ n,(l++[a]).length=n:=⟨_,rfl⟩
    rw [hne] at hve
    subst hve
    have HGE:=hid hge
    have HSTB:=hid (show ∀ i,i<we.heap.size->i<wc.heap.size->wf.heap[i]?=we.heap[i]? from fun i hi h9=>hgr.block i hi fun e=>by have:=(HGD.lt i e.symm).1;omega)
    have HGS:=hid hgr.size
    have HGO:=hid (show wf.os=we.os/\wf.tape=we.tape/\wf.output=we.output from ⟨hgr.os,hgr.tape,hgr.output⟩)
    have HBXE:=hid (show BxL 74 q [.string ⟨s.toArray⟩,.slice pv LL cv,.slice none 0 0,.int .i64 (fpos ws).1,.int .i64 (fpos ws).2] wf from (HBXC.bel HBD.out).keep (HSTB.out _ (HBXC.bel HBD.out).lt HQC.out))
    have hSe:(fun W=>W.cell? ⟨q,1,none⟩=some (.slice pv LL cv)) wf:=HBXE.at 1 rfl
    have t1:=hSe
    have f1:=HBXE.fr 1
    clear hne hge hgr hme hSd
    refine hK _ _ (.inr (.inr hSe)) ?_
    clear hK K
    (refine nxW (v:=?_) 10 hSe ?_ ?_;rotate_left;(focus rintro w' s0;go_simp;try rfl);simp only [aP])
    refine oy 9 fun K hK=>?_
    go_simp
    refine hK _ _ (.inl rfl) (dN ?_)
    clear hK K
    simp only [onlyP,Exit.then]
    clear hFa
    clear t1 f1 hSe
    generalize hw:World.setCell _ _ _=wg
    have hbf:But (fun i=>i=b\/i=q) wc wf:=⟨HGO.1.trans (HBD.os.trans HNRC.os),HGO.2.1.trans (HBD.tape.trans HNRC.tape),HGO.2.2.trans (HBD.output.trans HNRC.output),Nat.le_trans HNRC.size (Nat.le_trans HBD.size HGS.out),fun i hi hF=>(HSTB.out i (Nat.lt_of_lt_of_le hi (Nat.le_trans HNRC.size HBD.size)) hi).trans ((HBD.block i (Nat.lt_of_lt_of_le hi HNRC.size)).trans (HNRC.block i hi hF))⟩
    have HNF:=hid (show But (fun i=>i=b\/i=q) wc wg from by rw [<- hw];exact hbf.setC _ (.inl (.inr rfl)))
    have hde:Rd b O S.p.width (some ⟨wb,off,none⟩) cw S.inn S.step ws kn wf:=(HDC.below HBD.out).keepB fun i hi=>HSTB.out i (by have:=(HDC.below HBD.out).box.lt;omega) (by have:=HBC.out;omega)
    have HDF:=hid (show Rd b O S.p.width (some ⟨wb,off,none⟩) cw S.inn S.step ws kn wg from by rw [<- hw];exact hde.other _ HBQ.out)
    have HBF:=hid (show BxL 74 q [.string ⟨s.toArray⟩,.slice pe ne ce,.slice none 0 0,.int .i64 (fpos ws).1,.int .i64 (fpos ws).2] wg from by rw [<- hw];exact HBXE.set 1 _)
    have HGF:=hid (show GR kStr (fun _=>False) wc.heap.size 9 wg (.slice pe ne ce) (l++[a]) from by rw [<- hw];exact HGE.strF fun j hj=>heap_ot (by have:=(HGE.lt j hj).1;have:=HQC.out;omega) _)
    have HKE:=hid (show kn=kj+1 from fresh_pos (by rw [<- HDX.out];exact HMG.out) (by rw [HLL.out];exact HL32'.out) HDX.out HKJ.out HKN.out)
    have HMR:=hid (show paramsP (fpos ws) [] (ws.drop k4)=paramsP (fpos ws) (l++[a]) (ws.drop kn) from by rw [HMO.out];exact (params_ok l (by rw [HLL.out];exact HL32'.out) (by rw [<- HDX.out];exact HMG.out)).1)
    have HLE2:=hid (show (l++[a]).length<=32 from by rw [List.length_append,HLL.out];have:=HL32'.out;show LL+1<=32;omega)
    clear hw hbf hde
    obtain ⟨gp,rfl⟩:∃ g,gk=g+1:=⟨gk - 1,by have:=HG1.out;omega⟩
    go_wp2_with fail
    go_roundg gp
    case measure=>omega
    case rel=>exact ⟨kn,l++[a],_,HMR.out,HKN.out,by have:=HG1.out;have:=HKE.out;have:=HLJ.out;omega,by have:=HG2.out;omega,HLE2.out,HGF.out,HBF.out,HDF.out,HNF.out⟩
   ·have hke:kj=ws.length:=by have:=HKJ.out;omega
    have HKE:=hid hke
    have HMP:=hid (show funcD S (fpos ws) (ws.drop k)=.ok { S with p:={ S.p with funcs:=S.p.funcs++[⟨s,l,[],fpos ws⟩] },step:=3,inn:=1,labels:=[] } from by
     have hdn:ws.drop kj=[]:=List.drop_eq_nil_of_le (by omega)
     rw [HMC.out,HMO.out,hdn,params_end];rfl)
    have hS:(fun W=>W.cell? ⟨b,5,none⟩=some (.slice pw ws.length cw)/\W.cell? ⟨b,6,none⟩=some (.int .i64 (kj:Int))) wr.drew:=⟨HDR.box.at 5 rfl,HDR.box.at 6 rfl⟩
    go_upto_region 2 with fail
    have hFa:=fT
    refine rgN (fun W=>W.cell? ⟨b,5,none⟩=some (.slice pw ws.length cw)/\W.cell? ⟨b,6,none⟩=some (.int .i64 (kj:Int))) 10 (by kernel_rfl) ?_
    simp only [zP,Nat.reduceAdd]
    iterate 10 (refine nxW (v:=?_) 10 hS ?_ ?_;rotate_left;(focus rintro w' ⟨s0,s1⟩;go_simp;try rfl);simp only [aP])
    refine wpHJ_done (by kernel_rfl) ?_ _
    simp only [onlyN,Exit.then]
    clear hFa
    clear hS
    have hlf:decide (kj<ws.length)=false:=by simpa using hlt
    generalize hw:wr.drew=w8
    have hd8:Rd b O S.p.width pw cw S.inn S.step ws kj w8:=by rw [<- hw];exact HDR.below (Below.refl _ _).drew
    have hn8:But (fun i=>i=b) w w8:=by rw [<- hw];exact HNWR.dr
    have HP8:=hid (HPM.read hd8 hn8 HKJ.out)
    have HNR8:=hid (show But (fun i=>i=b\/i=q) wc w8 from by rw [<- hw];exact HNR.dr)
    have HT8:=hid (show BxL 74 q [.string ⟨s.toArray⟩,.slice pv LL cv,.slice none 0 0,.int .i64 (fpos ws).1,.int .i64 (fpos ws).2] w8 from by rw [<- hw];exact HBX.bel (Below.refl _ _).drew)
    have HG8:=hid (show GR kStr (fun _=>False) wc.heap.size 9 w8 (.slice pv LL cv) l from by rw [<- hw];exact HGA.strF fun j hj=>rfl)
    have HBW8:=hid (show Below B w w8 from hn8.below HBZ.out (fun i e=>e ▸ HBB.out))
    have HJ8:=hid (show PmJ B b O pw cw ws S (anamesP S.p) FN kj w8 from by rw [<- HFN.out];exact HP8.toJ)
    clear hw hke hlt hd8 hn8
    go_upto_region 5 with fail
    clear hlf
    have hS:(fun W=>W.cell? ⟨b,8,none⟩=some (.slice pn FN.length cn)/\W.cell? ⟨q,0,none⟩=some (.string ⟨s.toArray⟩)) w8.drew:=⟨by rw [<- HON.out];exact HJ8.rd.box.at 8 rfl,HT8.at 0 rfl⟩
    have hFa:=fT
    refine rgN (fun W=>W.cell? ⟨b,8,none⟩=some (.slice pn FN.length cn)/\W.cell? ⟨q,0,none⟩=some (.string ⟨s.toArray⟩)) 11 (by kernel_rfl) ?_
    simp only [zP,Nat.reduceAdd]
    iterate 7 (refine nxW (v:=?_) 12 hS ?_ ?_;rotate_left;(focus rintro w' ⟨s0,s1⟩;go_simp;try rfl);simp only [aP])
    refine oy 7 fun K hK=>?_
    go_simp
    generalize hw:World.drew (World.alloc _ _)=w9
    have HB9:=hid (show Below w8.heap.size w8 w9 from by rw [<- hw];exact (bA).drew)
    have HY9:=hid (show BxL 9 w8.heap.size [.string ⟨s.toArray⟩] w9 from by rw [<- hw];exact (BxL.new _ _ _).bel (Below.refl _ _).drew)
    have HJ9:=hid (HJ8.below HB9.out)
    have HT9:=hid (HT8.bel HB9.out)
    have hS9:(fun W=>W.cell? ⟨b,8,none⟩=some (.slice pn FN.length cn)/\W.cell? ⟨q,0,none⟩=some (.string ⟨s.toArray⟩)) w9:=⟨by rw [<- HON.out];exact HJ9.rd.box.at 8 rfl,HT9.at 0 rfl⟩
    clear hw hS
    refine hK _ _ (.inr (.inr hS9)) ?_
    clear hK K
    refine oy 8 fun K hK=>?_
    refine wpIn_pushB (R:=fun _=>False) (B:=b) (K:=kStr) (v := .slice pn FN.length cn) (l:=FN) (x:=s) (cs:=[.string ⟨s.toArray⟩]) (te:=9) hFa (.tmp 61) (.tmp 64) 22 rfl Tryz.underlying22 _ 16 info_str rfl (by have h:=HJ9.fn;rw [HON.out] at h;exact h.str) (fun i hi=>hi.elim) rfl HY9.out (by rfl) (by rfl) (by have:=HLA.out;omega) (by have:=HLA.out;unfold maxLen;omega) (Nat.le_of_lt HJ9.lt) ?_
    intro v' w10 hg hgr hm
    obtain ⟨p9,c9,hv9⟩:=hg.slc
    obtain ⟨n9,hn9⟩:∃ n',(FN++[s]).length=n':=⟨_,rfl⟩
    rw [hn9] at hv9
    subst hv9
    clear hn9
    rw [<- HON.out] at hgr hm
    have HPJ:=hid (HJ8.grow8 HB9.out hgr hm hg).1
    have HBW10:=hid (show Below B w w10 from HBW8.trans ((HB9.mono HJ8.size).trans ⟨hgr.os,hgr.tape,hgr.output,hgr.size,fun i hi=>hgr.block i (Nat.lt_of_lt_of_le hi HJ9.size) fun e=>by have:=(HJ9.ow.lt _ i e.symm).1;have:=HBB.out;omega⟩))
    have hbx:=HJ9.rd.box.keep (hgr.block b HJ9.lt fun e=>HJ9.own 8 e.symm)
    have HGRS:=hid (show w9.heap.size<=w10.heap.size from hgr.size)
    have HO8:=hid (show ∀ i,w.heap.size<=i->(O 8).ownBlock ≠ some i from fun i hi e=>by have:=(HPM.rs.ow.lt 8 i e).2;omega)
    have HT10:=hid (HT9.keep (hgr.block q HT9.lt fun e=>HO8.out q HQ.out e.symm))
    have HG10:=hid (show GR kStr (fun _=>False) wc.heap.size 9 w10 (.slice pv LL cv) l from HG8.strF fun j hj=>(hgr.block j (by have:=(HG8.lt j hj).2;have:=HB9.size;omega) fun e=>HO8.out j (by have:=(HG8.lt j hj).1;have:=HNC.size;omega) e.symm).trans (HB9.block j (HG8.lt j hj).2))
    have HMV:=hid (show ∀ i,w.heap.size<=i->i<w8.heap.size->(Value.slice p9 n9 c9).ownBlock ≠ some i from fun i h1 h2 e=>by
     rcases hm with e' | ⟨j,e',hj⟩
     ·exact HO8.out i h1 (e'.symm.trans e)
     ·rw [e'] at e;cases e;have:=HB9.size;omega)
    have hS10:(fun W=>W.cell? ⟨b,8,none⟩=some (.slice pn FN.length cn)/\W.cell? ⟨q,0,none⟩=some (.string ⟨s.toArray⟩)) w10:=⟨by rw [<- HON.out];exact hbx.at 8 rfl,HT10.at 0 rfl⟩
    have c0:=hS10.1
    have f0:=hbx.fr 8
    clear hg hgr hm hbx hS9
    refine hK _ _ (.inr (.inr hS10)) ?_
    clear hK K
    (refine npW (v:=?_) 12 (.inr hS10) ?_ ?_;rotate_left;(focus rintro w' _;go_simp;try rfl);simp only [aP])
    (refine nxW (v:=?_) 12 hS10 ?_ ?_;rotate_left;(focus rintro w' ⟨s0,s1⟩;go_simp;try rfl);simp only [aP])
    refine oy 11 fun K hK=>?_
    go_simp
    refine hK _ _ (.inl rfl) (dN ?_)
    clear hK K
    simp only [onlyN,Exit.then]
    clear hFa
    clear c0 f0 hS10
    generalize hw:World.setCell _ _ _=w11 at HPJ ⊢
    have HBW11:=hid (show Below B w w11 from by rw [<- hw];exact HBW10.setCell (p:=⟨b,8,none⟩) HBB.out _)
    have HT11:=hid (show BxL 74 q [.string ⟨s.toArray⟩,.slice pv LL cv,.slice none 0 0,.int .i64 (fpos ws).1,.int .i64 (fpos ws).2] w11 from by rw [<- hw];exact HT10.keep (heap_ot (by have:=HBQ.out;omega) _))
    have HG11:=hid (show GR kStr (fun _=>False) wc.heap.size 9 w11 (.slice pv LL cv) l from by rw [<- hw];exact HG10.strF fun j hj=>heap_ot (by have:=(HG10.lt j hj).1;have:=HBC.out;omega) _)
    obtain ⟨OC,hOC⟩:∃ o,upd O 8 (.slice p9 n9 c9)=o:=⟨_,rfl⟩
    rw [hOC] at HPJ
    have HO3:=hid (show OC 3=.slice pl S.p.funcs.length cl from by rw [<- hOC,upd_ne _ _ (by decide)];exact HO.out)
    have HN3C:=hid (show ∀ i,w.heap.size<=i->(OC 3).ownBlock ≠ some i from fun i hi e=>by rw [<- hOC,upd_ne _ _ (by decide)] at e;have:=(HPM.rs.ow.lt 3 i e).2;omega)
    have HFRO:=hid (show ∀ i,wc.heap.size<=i->i<w8.heap.size->∀ j,(OC j).ownBlock ≠ some i from fun i h1 h2 j e=>by
     have h3:w.heap.size<=i:=Nat.le_trans HNC.size h1
     by_cases hj:j=8
     ·subst hj;rw [<- hOC,upd_eq] at e;exact HMV.out i h3 h2 e
     ·rw [<- hOC,upd_ne _ _ hj] at e;have:=(HPM.rs.ow.lt j i e).2;omega)
    have HS811:=hid (show w8.heap.size<=w11.heap.size from by have h1:=HB9.size;have h2:=HGRS.out;rw [<- hw];simp only [World.size_setCell];omega)
    have HJ11:=hid HPJ.out
    clear hOC HPJ hw
    go_upto_region 6 with fail
    have hS:(fun W=>W.cell? ⟨b,3,none⟩=some (.slice pl S.p.funcs.length cl)/\W.cell? ⟨q,0,none⟩=some (.string ⟨s.toArray⟩)/\W.cell? ⟨q,1,none⟩=some (.slice pv LL cv)/\W.cell? ⟨q,2,none⟩=some (.slice none 0 0)/\W.cell? ⟨q,3,none⟩=some (.int .i64 (fpos ws).1)/\W.cell? ⟨q,4,none⟩=some (.int .i64 (fpos ws).2)) w11.drew:=⟨by rw [<- HO3.out];exact HJ11.rd.box.at 3 rfl,HT11.at 0 rfl,HT11.at 1 rfl,HT11.at 2 rfl,HT11.at 3 rfl,HT11.at 4 rfl⟩
    have hFa:=fT
    refine rgN (fun W=>W.cell? ⟨b,3,none⟩=some (.slice pl S.p.funcs.length cl)/\W.cell? ⟨q,0,none⟩=some (.string ⟨s.toArray⟩)/\W.cell? ⟨q,1,none⟩=some (.slice pv LL cv)/\W.cell? ⟨q,2,none⟩=some (.slice none 0 0)/\W.cell? ⟨q,3,none⟩=some (.int .i64 (fpos ws).1)/\W.cell? ⟨q,4,none⟩=some (.int .i64 (fpos ws).2)) 12 (by kernel_rfl) ?_
    simp only [zP,Nat.reduceAdd]
    iterate 7 (refine nxW (v:=?_) 13 hS ?_ ?_;rotate_left;(focus rintro w' ⟨s0,s1,s2,s3,s4,s5⟩;go_simp;try rfl);simp only [aP])
    refine oy 7 fun K hK=>?_
    go_simp
    generalize hw:World.drew (World.alloc _ _)=w12
    have HB12:=hid (show Below w11.heap.size w11 w12 from by rw [<- hw];exact (bA).drew)
    have HY12:=hid (show BxL 74 w11.heap.size [.string ⟨s.toArray⟩,.slice pv LL cv,.slice none 0 0,.int .i64 (fpos ws).1,.int .i64 (fpos ws).2] w12 from by rw [<- hw];exact (BxL.new _ _ _).bel (Below.refl _ _).drew)
    have HJ12:=hid (HJ11.below HB12.out)
    have HT12:=hid (HT11.bel HB12.out)
    have HFR:=hid (show ∀ i,wc.heap.size<=i->i<w8.heap.size->Fin' b OC w12 i from fun i h1 h2=>⟨by have:=HS811.out;have:=HB12.size;omega,by have:=HBC.out;omega,HFRO.out i h1 h2⟩)
    have HG12:=hid (show GR kStr (fun _=>False) wc.heap.size 9 w12 (.slice pv LL cv) l from HG11.strF fun j hj=>HB12.block j (HG11.lt j hj).2)
    have hS12:(fun W=>W.cell? ⟨b,3,none⟩=some (.slice pl S.p.funcs.length cl)/\W.cell? ⟨q,0,none⟩=some (.string ⟨s.toArray⟩)/\W.cell? ⟨q,1,none⟩=some (.slice pv LL cv)/\W.cell? ⟨q,2,none⟩=some (.slice none 0 0)/\W.cell? ⟨q,3,none⟩=some (.int .i64 (fpos ws).1)/\W.cell? ⟨q,4,none⟩=some (.int .i64 (fpos ws).2)) w12:=⟨by rw [<- HO3.out];exact HJ12.rd.box.at 3 rfl,HT12.at 0 rfl,HT12.at 1 rfl,HT12.at 2 rfl,HT12.at 3 rfl,HT12.at 4 rfl⟩
    clear hw hS
    refine hK _ _ (.inr (.inr hS12)) ?_
    clear hK K
    refine oy 8 fun K hK=>?_
    refine wpIn_pushB (R:=Fin' b OC w12) (B:=b) (K:=kFuX) (v := .slice pl S.p.funcs.length cl) (l:=S.p.funcs.map fun f=>(f,false)) (x:=((⟨s,l,[],fpos ws⟩:Fu),true)) (cs:=[.string ⟨s.toArray⟩,.slice pv LL cv,.slice none 0 0,.int .i64 (fpos ws).1,.int .i64 (fpos ws).2]) (te:=74) hFa (.tmp 73) (.tmp 75) 24 rfl Tryz.underlying24 _ 80 info_fuP rfl (by have h:=HJ12.fu.marked (by rw [HIN.out];decide);rw [HO3.out] at h;exact h) (fun i hi=>⟨hi.1,by have h:=hi.2.2 3;rw [HO3.out] at h;exact h⟩) ⟨⟨_,_,rfl,(by
     have hg:=(GR.sl HG12.out (by have:=HLL.out;have:=HL32.out;omega)).weaken (fun i hi=>by
      rcases hi with hi | hi
      ·exact hi.elim
      ·exact HFR.out i (HG8.lt i hi).1 (HG8.lt i hi).2)
     exact hg),(GR.sl (GR.nil kIn (fun _=>False) 0 41 w12) (by decide)).weaken (fun i hi=>by rcases hi with hi | hi;exact hi.elim;cases hi)⟩,fun _=>rfl⟩ HY12.out (by rfl) (by rfl) (by rw [List.length_map];have:=HLT.out;omega) (by rw [List.length_map];have:=HLT.out;unfold maxLen;omega) (Nat.le_of_lt HJ12.lt) ?_
    intro v' w13 hg hgr hm
    obtain ⟨p9,c9,hv9⟩:=hg.slc
    obtain ⟨n9,hn9⟩:∃ n',((S.p.funcs.map fun f=>(f,false))++[((⟨s,l,[],fpos ws⟩:Fu),true)]).length=n':=⟨_,rfl⟩
    rw [hn9] at hv9
    subst hv9
    clear hn9
    rw [<- HO3.out] at hgr hm
    have HPF:=hid (HJ11.open3 (by rw [HIN.out];decide) HB12.out hgr hm (fun i hi=>hi) hg rfl rfl (by rw [HFN.out]))
    have HBW13:=hid (show Below B w w13 from HBW11.trans ((HB12.mono HJ11.size).trans ⟨hgr.os,hgr.tape,hgr.output,hgr.size,fun i hi=>hgr.block i (Nat.lt_of_lt_of_le hi HJ12.size) fun e=>by have:=(HJ12.ow.lt _ i e.symm).1;have:=HBB.out;omega⟩))
    have hbx:=HJ12.rd.box.keep (hgr.block b HJ12.lt fun e=>HJ12.own 3 e.symm)
    have HT13:=hid (HT12.keep (hgr.block q HT12.lt fun e=>HN3C.out q HQ.out e.symm))
    have HBX13:=hid hbx
    have hS13:(fun W=>W.cell? ⟨b,3,none⟩=some (.slice pl S.p.funcs.length cl)/\W.cell? ⟨q,0,none⟩=some (.string ⟨s.toArray⟩)/\W.cell? ⟨q,1,none⟩=some (.slice pv LL cv)/\W.cell? ⟨q,2,none⟩=some (.slice none 0 0)/\W.cell? ⟨q,3,none⟩=some (.int .i64 (fpos ws).1)/\W.cell? ⟨q,4,none⟩=some (.int .i64 (fpos ws).2)) w13:=⟨by rw [<- HO3.out];exact hbx.at 3 rfl,HT13.at 0 rfl,HT13.at 1 rfl,HT13.at 2 rfl,HT13.at 3 rfl,HT13.at 4 rfl⟩
    have c0:=hS13.1
    have f0:=hbx.fr 3
    clear hg hgr hm hbx hS12
    refine hK _ _ (.inr (.inr hS13)) ?_
    clear hK K
    iterate 2 (refine npW (v:=?_) 13 (.inr hS13) ?_ ?_;rotate_left;(focus rintro w' _;go_simp;try rfl);simp only [aP])
    (refine nxW (v:=?_) 13 hS13 ?_ ?_;rotate_left;(focus rintro w' ⟨s0,s1,s2,s3,s4,s5⟩;go_simp;try rfl);simp only [aP])
    refine oy 12 fun K hK=>?_
    go_simp
    refine hK _ _ (.inl rfl) (dN ?_)
    clear hK K
    simp only [onlyN,Exit.then]
    clear hFa
    clear c0 f0 hS13
    have HBX:=hid HBX13.out
    generalize hw3:World.setCell _ _ _=w14
    have hb14:=HBX13.set 3 (.slice p9 n9 c9)
    rw [hw3] at hb14
    have c12:=hb14.at 12 rfl
    have f12:=hb14.fr 12
    have c11:=hb14.at 11 rfl
    have f11:=hb14.fr 11
    have c9:=hb14.at 9 rfl
    have f9:=hb14.fr 9
    go_wp2_with fail
    first | go_end0 | refine bodyPost_ret (results_none rfl _ _ _) rfl ?_
    subst hw3
    exact ⟨(((HBW13.setCell (p:=⟨b,3,none⟩) HBB.out _).setCell (p:=⟨b,12,none⟩) HBB.out _).setCell (p:=⟨b,11,none⟩) HBB.out _).setCell (p:=⟨b,9,none⟩) HBB.out _,.inr ⟨_,_,kj,HMP.out,rfl,HPF.cell9⟩⟩
end Go.Proofs.YtoofbgoeipijcaaGreatDoor
