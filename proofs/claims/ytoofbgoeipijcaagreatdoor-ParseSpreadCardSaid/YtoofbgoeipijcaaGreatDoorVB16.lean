/-
 A part.
-/
import Derived.Test.YtoofbgoeipijcaaGreatDoorVB15
namespace Go.Proofs.YtoofbgoeipijcaaGreatDoor
set_option maxRecDepth 100000
set_option maxHeartbeats 4000000
set_option linter.all false
open Go.RowKit Go.Shelf
attribute [local go_sem] Oper.semAt_some
theorem pname_any {B b:Nat} {O:Nat->Value} {wd:Int} {pw:Option Addr} {cw inn step:Nat} {ws:List Wd} {k:Nat} {w:World} (hd:Rd b O wd pw cw inn step ws k w) (hk:k<=ws.length) (hw:WOk ws) (hB:B<=b):Calls Tryz.prog 198 #[.pointer (some ⟨b,0,none⟩)] w (RdP B b O wd pw cw inn step ws (fun a _ v=>v=wdV a) w (nameP (fpos ws) (ws.drop k))):=by
 have HD:=hid hd;have HW:=hid hw;have HBB:=hid hB;have HLE:=hid hk;have HSZ:=hid hd.box.lt
 have HBZ:=hid (show B<=w.heap.size from Nat.le_of_lt (Nat.lt_of_le_of_lt hB hd.box.lt))
 clear hd hw hB hk
 go_enter Tryz.func198,Tryz.ntmps198
 go_upto_region 2 with (go_at_call 144;(with_reducible refine (next_any (HD.out.al _) HLE.out HW.out HBB.out).mono ?_);rintro e w1 ⟨hb,⟨f1,hm,rfl⟩ | ⟨a,k1,v,hm,hk,rfl,hv,hd,hn⟩⟩;(focus (exact ⟨rfl,((But.of_below (fun i=>i=b) ((Below.refl _ _).alloc (Nat.le_refl w.heap.size) (.cells #[.string ⟨#[]⟩,.int .i64 0,.int .i64 0] 128))).below HBZ.out (fun i e=>e ▸ HBB.out)).trans hb,.inl ⟨f1,by unfold nameP;rw [hm];rfl,rfl⟩⟩));obtain rfl:v=.agg #[.string ⟨a.1.toArray⟩,.int .i64 (a.2.1:Int),.int .i64 (a.2.2:Int)]:=hv)
 have HN1:=hid ((But.of_below (fun i=>i=b) ((Below.refl _ _).alloc (Nat.le_refl w.heap.size) (.cells #[.string ⟨#[]⟩,.int .i64 0,.int .i64 0] 128))).trans hn)
 have HR1:=hid ((BxL.new 128 w [.string ⟨#[]⟩,.int .i64 0,.int .i64 0]).but hn (by have:=HSZ.out;omega))
 have HM:=hid hm;have HK1:=hid hk
 clear hb hm hk hn
 generalize hw3:World.alloc w1 _=w3
 have hX3:BxL 128 w1.heap.size [.string ⟨a.1.toArray⟩,.int .i64 (a.2.1:Int),.int .i64 (a.2.2:Int)] w3:=by rw [<- hw3];exact BxL.new _ _ _
 have HD3:=hid (show Rd b O wd pw cw inn step ws k1 w3 from by rw [<- hw3];exact hd.al _)
 have HN3:=hid (show But (fun i=>i=b) w w3 from by rw [<- hw3];exact HN1.al _)
 have HR3:=hid (show BxL 128 w.heap.size [.string ⟨#[]⟩,.int .i64 0,.int .i64 0] w3 from by rw [<- hw3];exact HR1.al _)
 clear hw3 hd
 generalize hq:w1.heap.size=q at hX3 ⊢
 have HX3:=hid hX3
 have HQ:=hid (show w.heap.size<=q from by rw [<- hq];exact HN1.size)
 clear hq
 have hS:(fun W=>W.cell? ⟨q,0,none⟩=some (.string ⟨a.1.toArray⟩)/\W.cell? ⟨q,1,none⟩=some (.int .i64 (a.2.1:Int))/\W.cell? ⟨q,2,none⟩=some (.int .i64 (a.2.2:Int))) w3.drew:=hX3.p3
 clear hX3
 have hFa:=fT
 refine rgP (fun _ _ _ h=>h) (fun W=>W.cell? ⟨q,0,none⟩=some (.string ⟨a.1.toArray⟩)/\W.cell? ⟨q,1,none⟩=some (.int .i64 (a.2.1:Int))/\W.cell? ⟨q,2,none⟩=some (.int .i64 (a.2.2:Int))) 6 (by kernel_rfl) ?_
 simp only [zP,Nat.reduceAdd]
 iterate 2 (refine nxW (v:=?_) 6 hS ?_ ?_;rotate_left;(focus rintro w' ⟨s0,s1,s2⟩;go_simp;try rfl);simp only [aP])
 iterate 2 (refine nxW (v:=?_) 7 hS ?_ ?_;rotate_left;(focus rintro w' ⟨s0,s1,s2⟩;go_simp;try rfl);simp only [aP])
 refine oy 2 fun K hK=>?_
 go_simp
 (with_reducible refine (callsIn_wide.2 (pnamed_any a.1 _)).mono ?_)
 rintro e w4 ⟨rfl,hb⟩
 have HD4:=hid ((HD3.below (Below.refl _ _).drew).below hb)
 have HN4:=hid (HN3.dr.trans (But.of_below _ hb))
 have HR4:=hid ((HR3.bel (Below.refl _ _).drew).bel hb)
 have HX4:=hid ((HX3.bel (Below.refl _ _).drew).bel hb)
 have hS4:(fun W=>W.cell? ⟨q,0,none⟩=some (.string ⟨a.1.toArray⟩)/\W.cell? ⟨q,1,none⟩=some (.int .i64 (a.2.1:Int))/\W.cell? ⟨q,2,none⟩=some (.int .i64 (a.2.2:Int))) w4:=HX4.p3
 clear hb hS
 refine hK _ _ (.inr (.inr hS4)) ?_
 clear hK K
 refine oy 5 fun K hK=>?_
 go_simp
 (with_reducible refine (callsIn_wide.2 (pneed_any _ ((a.2.1:Int),(a.2.2:Int)) _ _)).mono ?_)
 rintro e w5 ⟨hb,⟨hc,rfl⟩ | ⟨hc,rfl⟩⟩
 rotate_left
 ·exact ⟨rfl,(HN4.trans (But.of_below _ hb)).below HBZ.out (fun i e=>e ▸ HBB.out),.inl ⟨_,by unfold nameP;rw [HM.out];simp only [bind,Except.bind];rw [hc];rfl,rfl⟩⟩
 have HC5:=hid hc
 have HD5:=hid (HD4.below hb)
 have HN5:=hid (HN4.trans (But.of_below _ hb))
 have HR5:=hid (HR4.bel hb)
 have HX5:=hid (HX4.bel hb)
 have hS5:(fun W=>W.cell? ⟨q,0,none⟩=some (.string ⟨a.1.toArray⟩)/\W.cell? ⟨q,1,none⟩=some (.int .i64 (a.2.1:Int))/\W.cell? ⟨q,2,none⟩=some (.int .i64 (a.2.2:Int))) w5:=HX5.p3
 clear hb hc hS4
 refine hK _ _ (.inr (.inr hS5)) (dN ?_)
 clear hK K
 simp only [onlyP,Exit.then]
 clear hFa
 clear hS5
 obtain ⟨n0,n1,n2⟩:=HX5.p3
 obtain ⟨t0,t1,t2⟩:=HR5.p3
 have f0:=HR5.fr 0
 have f1:=HR5.fr 1
 have f2:=HR5.fr 2
 go_wp2_with fail
 generalize hw9:World.setCell _ _ _=w9
 have hX9:BxL 128 w.heap.size [.string ⟨a.1.toArray⟩,.int .i64 (a.2.1:Int),.int .i64 (a.2.2:Int)] w9:=by rw [<- hw9];exact (((HR5.set 0 _).set 1 _).set 2 _)
 have hD9:Rd b O wd pw cw inn step ws k1 w9:=by rw [<- hw9];exact (((HD5.other _ HSZ.out).other _ HSZ.out).other _ HSZ.out)
 have hN9:But (fun i=>i=b) w w9:=by rw [<- hw9];exact (((HN5.setC _ (.inr lrf)).setC _ (.inr lrf)).setC _ (.inr lrf))
 clear hw9
 obtain ⟨g0,g1,g2⟩:=hX9.p3
 refine bodyPost_ret (v := .agg #[.string ⟨a.1.toArray⟩,.int .i64 (a.2.1:Int),.int .i64 (a.2.2:Int)]) (by simp [results,Tryz.results198,go_sem,g0,g1,g2]) rfl ?_
 exact ⟨hN9.below HBZ.out (fun i e=>e ▸ HBB.out),.inr ⟨a,k1,_,by unfold nameP;rw [HM.out];simp only [bind,Except.bind];rw [HC5.out];rfl,HK1.out,rfl,rfl,hD9,hN9⟩⟩
theorem pfresh_any {B b:Nat} {O:Nat->Value} {wd:Int} {pw:Option Addr} {cw inn step:Nat} {ws:List Wd} {k:Nat} {w:World} {R:Nat->Prop} {had:List Bs} {hv:Value} (hd:Rd b O wd pw cw inn step ws k w) (hk:k<=ws.length) (hw:WOk ws) (hB:B<=b) (hh:SlG kStr R w hv had) (hR:∀ i,R i->i<w.heap.size/\i ≠ b):Calls Tryz.prog 214 #[.pointer (some ⟨b,0,none⟩),hv] w (RdP B b O wd pw cw inn step ws (fun s _ v=>v=.string ⟨s.toArray⟩) w (freshP (fpos ws) had (ws.drop k))):=by
 have HH:=hid hh;have HRR:=hid hR
 clear hh hR
 have HD:=hid hd;have HW:=hid hw;have HBB:=hid hB;have HLE:=hid hk;have HSZ:=hid hd.box.lt
 have HBZ:=hid (show B<=w.heap.size from Nat.le_of_lt (Nat.lt_of_le_of_lt hB hd.box.lt))
 clear hd hw hB hk
 go_enter Tryz.func214,Tryz.ntmps214
 go_upto_region 2 with (go_at_call 198;(with_reducible refine (pname_any HD.out HLE.out HW.out HBB.out).mono ?_);rintro e w1 ⟨hb,⟨f1,hm,rfl⟩ | ⟨a,k1,v,hm,hk,rfl,hv,hd,hn⟩⟩;(focus (exact ⟨rfl,((But.refl (fun i=>i=b) w).below HBZ.out (fun i e=>e ▸ HBB.out)).trans hb,.inl ⟨f1,by unfold freshP;rw [hm];rfl,rfl⟩⟩));obtain rfl:v=.agg #[.string ⟨a.1.toArray⟩,.int .i64 (a.2.1:Int),.int .i64 (a.2.2:Int)]:=hv)
 have HN1:=hid ((But.refl (fun i=>i=b) w).trans hn)
 have HM:=hid hm;have HK1:=hid hk
 clear hb hm hk hn
 generalize hw3:World.alloc w1 _=w3
 have hX3:BxL 128 w1.heap.size [.string ⟨a.1.toArray⟩,.int .i64 (a.2.1:Int),.int .i64 (a.2.2:Int)] w3:=by rw [<- hw3];exact BxL.new _ _ _
 have HD3:=hid (show Rd b O wd pw cw inn step ws k1 w3 from by rw [<- hw3];exact hd.al _)
 have HN3:=hid (show But (fun i=>i=b) w w3 from by rw [<- hw3];exact HN1.al _)
 clear hw3 hd
 generalize hq:w1.heap.size=q at hX3 ⊢
 have HX3:=hid hX3
 have HQ:=hid (show w.heap.size<=q from by rw [<- hq];exact HN1.size)
 clear hq
 have hS:(fun W=>W.cell? ⟨q,0,none⟩=some (.string ⟨a.1.toArray⟩)/\W.cell? ⟨q,1,none⟩=some (.int .i64 (a.2.1:Int))/\W.cell? ⟨q,2,none⟩=some (.int .i64 (a.2.2:Int))) w3.drew:=hX3.p3
 have HH3:=hid (show SlG kStr R w3.drew hv had from HH.keep fun i hi=>⟨hi,HN3.block i (HRR.out i hi).1 (HRR.out i hi).2⟩)
 obtain ⟨bc,hbc⟩:∃ c,had.contains a.1=c:=⟨_,rfl⟩
 have HBC:=hid hbc
 clear hX3 hbc
 have hFa:=fT
 refine rgP (fun _ _ _ h=>h) (fun W=>W.cell? ⟨q,0,none⟩=some (.string ⟨a.1.toArray⟩)/\W.cell? ⟨q,1,none⟩=some (.int .i64 (a.2.1:Int))/\W.cell? ⟨q,2,none⟩=some (.int .i64 (a.2.2:Int))) 8 (by kernel_rfl) ?_
 simp only [zP,Nat.reduceAdd]
 iterate 3 (refine nxW (v:=?_) 8 hS ?_ ?_;rotate_left;(focus rintro w' ⟨s0,s1,s2⟩;go_simp;try rfl);simp only [aP])
 iterate 2 (refine nxW (v:=?_) 10 hS ?_ ?_;rotate_left;(focus rintro w' ⟨s0,s1,s2⟩;go_simp;try rfl);simp only [aP])
 refine oy 3 fun K hK=>?_
 go_simp
 (with_reducible refine (callsIn_wide.2 (contains_any had a.1 _ _ _ HH3.out)).mono ?_)
 rintro e w4 ⟨rfl,rfl⟩
 rw [HBC.out]
 refine hK _ _ (.inr (.inr hS)) ?_
 clear hK K
 (refine nxW (v:=?_) 6 hS ?_ ?_;rotate_left;(focus rintro w' ⟨s0,s1,s2⟩;go_simp;try rfl);simp only [aP])
 refine oy 7 fun K hK=>?_
 go_simp
 (with_reducible refine (callsIn_wide.2 (pneed_any _ ((a.2.1:Int),(a.2.2:Int)) _ _)).mono ?_)
 rintro e w5 ⟨hb,⟨hc,rfl⟩ | ⟨hc,rfl⟩⟩
 rotate_left
 ·exact ⟨rfl,(HN3.dr.trans (But.of_below _ hb)).below HBZ.out (fun i e=>e ▸ HBB.out),.inl ⟨_,by unfold freshP;rw [HM.out];simp only [bind,Except.bind];rw [HBC.out,hc];rfl,rfl⟩⟩
 have HC5:=hid hc
 have HD5:=hid ((HD3.below (Below.refl _ _).drew).below hb)
 have HN5:=hid (HN3.dr.trans (But.of_below _ hb))
 have HX5:=hid ((HX3.bel (Below.refl _ _).drew).bel hb)
 have hS5:(fun W=>W.cell? ⟨q,0,none⟩=some (.string ⟨a.1.toArray⟩)/\W.cell? ⟨q,1,none⟩=some (.int .i64 (a.2.1:Int))/\W.cell? ⟨q,2,none⟩=some (.int .i64 (a.2.2:Int))) w5:=HX5.p3
 clear hb hc hS
 refine hK _ _ (.inr (.inr hS5)) (dN ?_)
 clear hK K
 simp only [onlyP,Exit.then]
 clear hFa
 clear hS5
 obtain ⟨n0,n1,n2⟩:=HX5.p3
 go_wp2_with fail
 go_ret
 exact ⟨HN5.below HBZ.out (fun i e=>e ▸ HBB.out),.inr ⟨a.1,k1,_,by unfold freshP;rw [HM.out];simp only [bind,Except.bind];rw [HBC.out,HC5.out];rfl,HK1.out,rfl,rfl,HD5.out,HN5.out⟩⟩
theorem pknown_any {B b:Nat} {O:Nat->Value} {wd:Int} {pw:Option Addr} {cw inn step:Nat} {ws:List Wd} {k:Nat} {w:World} {R:Nat->Prop} {had:List Bs} {hv:Value} (hd:Rd b O wd pw cw inn step ws k w) (hk:k<=ws.length) (hw:WOk ws) (hB:B<=b) (hh:SlG kStr R w hv had) (hR:∀ i,R i->i<w.heap.size/\i ≠ b):Calls Tryz.prog 195 #[.pointer (some ⟨b,0,none⟩),hv] w (RdP B b O wd pw cw inn step ws (fun s _ v=>v=.string ⟨s.toArray⟩) w (knownP (fpos ws) had (ws.drop k))):=by
 have HH:=hid hh;have HRR:=hid hR
 clear hh hR
 have HD:=hid hd;have HW:=hid hw;have HBB:=hid hB;have HLE:=hid hk;have HSZ:=hid hd.box.lt
 have HBZ:=hid (show B<=w.heap.size from Nat.le_of_lt (Nat.lt_of_le_of_lt hB hd.box.lt))
 clear hd hw hB hk
 go_enter Tryz.func195,Tryz.ntmps195
 go_upto_region 2 with (go_at_call 198;(with_reducible refine (pname_any HD.out HLE.out HW.out HBB.out).mono ?_);rintro e w1 ⟨hb,⟨f1,hm,rfl⟩ | ⟨a,k1,v,hm,hk,rfl,hv,hd,hn⟩⟩;(focus (exact ⟨rfl,((But.refl (fun i=>i=b) w).below HBZ.out (fun i e=>e ▸ HBB.out)).trans hb,.inl ⟨f1,by unfold knownP;rw [hm];rfl,rfl⟩⟩));obtain rfl:v=.agg #[.string ⟨a.1.toArray⟩,.int .i64 (a.2.1:Int),.int .i64 (a.2.2:Int)]:=hv)
 have HN1:=hid ((But.refl (fun i=>i=b) w).trans hn)
 have HM:=hid hm;have HK1:=hid hk
 clear hb hm hk hn
 generalize hw3:World.alloc w1 _=w3
 have hX3:BxL 128 w1.heap.size [.string ⟨a.1.toArray⟩,.int .i64 (a.2.1:Int),.int .i64 (a.2.2:Int)] w3:=by rw [<- hw3];exact BxL.new _ _ _
 have HD3:=hid (show Rd b O wd pw cw inn step ws k1 w3 from by rw [<- hw3];exact hd.al _)
 have HN3:=hid (show But (fun i=>i=b) w w3 from by rw [<- hw3];exact HN1.al _)
 clear hw3 hd
 generalize hq:w1.heap.size=q at hX3 ⊢
 have HX3:=hid hX3
 have HQ:=hid (show w.heap.size<=q from by rw [<- hq];exact HN1.size)
 clear hq
 have hS:(fun W=>W.cell? ⟨q,0,none⟩=some (.string ⟨a.1.toArray⟩)/\W.cell? ⟨q,1,none⟩=some (.int .i64 (a.2.1:Int))/\W.cell? ⟨q,2,none⟩=some (.int .i64 (a.2.2:Int))) w3.drew:=hX3.p3
 have HH3:=hid (show SlG kStr R w3.drew hv had from HH.keep fun i hi=>⟨hi,HN3.block i (HRR.out i hi).1 (HRR.out i hi).2⟩)
 obtain ⟨bc,hbc⟩:∃ c,had.contains a.1=c:=⟨_,rfl⟩
 have HBC:=hid hbc
 clear hX3 hbc
 have hFa:=fT
 refine rgP (fun _ _ _ h=>h) (fun W=>W.cell? ⟨q,0,none⟩=some (.string ⟨a.1.toArray⟩)/\W.cell? ⟨q,1,none⟩=some (.int .i64 (a.2.1:Int))/\W.cell? ⟨q,2,none⟩=some (.int .i64 (a.2.2:Int))) 7 (by kernel_rfl) ?_
 simp only [zP,Nat.reduceAdd]
 iterate 3 (refine nxW (v:=?_) 7 hS ?_ ?_;rotate_left;(focus rintro w' ⟨s0,s1,s2⟩;go_simp;try rfl);simp only [aP])
 iterate 2 (refine nxW (v:=?_) 8 hS ?_ ?_;rotate_left;(focus rintro w' ⟨s0,s1,s2⟩;go_simp;try rfl);simp only [aP])
 refine oy 3 fun K hK=>?_
 go_simp
 (with_reducible refine (callsIn_wide.2 (contains_any had a.1 _ _ _ HH3.out)).mono ?_)
 rintro e w4 ⟨rfl,rfl⟩
 rw [HBC.out]
 refine hK _ _ (.inr (.inr hS)) ?_
 clear hK K
 refine oy 6 fun K hK=>?_
 go_simp
 (with_reducible refine (callsIn_wide.2 (pneed_any _ ((a.2.1:Int),(a.2.2:Int)) _ _)).mono ?_)
 rintro e w5 ⟨hb,⟨hc,rfl⟩ | ⟨hc,rfl⟩⟩
 rotate_left
 ·exact ⟨rfl,(HN3.dr.trans (But.of_below _ hb)).below HBZ.out (fun i e=>e ▸ HBB.out),.inl ⟨_,by unfold knownP;rw [HM.out];simp only [bind,Except.bind];rw [HBC.out,hc];rfl,rfl⟩⟩
 have HC5:=hid hc
 have HD5:=hid ((HD3.below (Below.refl _ _).drew).below hb)
 have HN5:=hid (HN3.dr.trans (But.of_below _ hb))
 have HX5:=hid ((HX3.bel (Below.refl _ _).drew).bel hb)
 have hS5:(fun W=>W.cell? ⟨q,0,none⟩=some (.string ⟨a.1.toArray⟩)/\W.cell? ⟨q,1,none⟩=some (.int .i64 (a.2.1:Int))/\W.cell? ⟨q,2,none⟩=some (.int .i64 (a.2.2:Int))) w5:=HX5.p3
 clear hb hc hS
 refine hK _ _ (.inr (.inr hS5)) (dN ?_)
 clear hK K
 simp only [onlyP,Exit.then]
 clear hFa
 clear hS5
 obtain ⟨n0,n1,n2⟩:=HX5.p3
 go_wp2_with fail
 go_ret
 exact ⟨HN5.below HBZ.out (fun i e=>e ▸ HBB.out),.inr ⟨a.1,k1,_,by unfold knownP;rw [HM.out];simp only [bind,Except.bind];rw [HBC.out,HC5.out];rfl,HK1.out,rfl,rfl,HD5.out,HN5.out⟩⟩
def EdP (B b:Nat) (O:Nat->Value) (wd:Int) (pw:Option Addr) (cw inn step:Nat) (ws:List Wd) (k:Nat) (w:World) (m:PE Unit) (e:Ending) (w':World):Prop :=
 Below B w w'/\((∃ f,m=.error f/\e=.panicked (fltP f))\/(m=.ok ()/\ws.drop k=[]/\e=.returned (.tuple #[])/\Rd b O wd pw cw inn step ws k w'/\But (fun i=>i=b) w w'))
theorem pend_any {B b:Nat} {O:Nat->Value} {wd:Int} {pw:Option Addr} {cw inn step:Nat} {ws:List Wd} {k:Nat} {w:World} (hd:Rd b O wd pw cw inn step ws k w) (hk:k<=ws.length) (hw:WOk ws) (hB:B<=b):Calls Tryz.prog 146 #[.pointer (some ⟨b,0,none⟩)] w (EdP B b O wd pw cw inn step ws k w (endP (ws.drop k))):=by
 have HD:=hid hd;have HW:=hid hw;have HBB:=hid hB;have HLE:=hid hk;have HSZ:=hid hd.box.lt
 have HBZ:=hid (show B<=w.heap.size from Nat.le_of_lt (Nat.lt_of_le_of_lt hB hd.box.lt))
 clear hd hw hB hk
 go_enter Tryz.func146,Tryz.ntmps146
 go_upto_region 0 with fail
 have hS:(fun W=>W.cell? ⟨b,5,none⟩=some (.slice pw ws.length cw)/\W.cell? ⟨b,6,none⟩=some (.int .i64 (k:Int))) w.drew:=⟨HD.box.at 5 rfl,HD.box.at 6 rfl⟩
 have hFa:=fT
 refine rgN (fun W=>W.cell? ⟨b,5,none⟩=some (.slice pw ws.length cw)/\W.cell? ⟨b,6,none⟩=some (.int .i64 (k:Int))) 10 (by kernel_rfl) ?_
 simp only [zP,Nat.reduceAdd]
 iterate 10 (refine nxW (v:=?_) 10 hS ?_ ?_;rotate_left;(focus rintro w' ⟨s0,s1⟩;go_simp;try rfl);simp only [aP])
 refine wpHJ_done (by kernel_rfl) ?_ _
 simp only [onlyN,Exit.then]
 clear hFa
 clear hS
 by_cases hlt:k<ws.length
 ·go_upto_region 1 with fail
  obtain ⟨wb,off,rfl,hwb,hne,hc⟩:=HD.at HW.pos
  obtain ⟨x,hx⟩:∃ x,ws[k]'hlt=x:=⟨_,rfl⟩
  have h0:=hc k hlt
  rw [hx] at h0
  obtain ⟨h0,h1,h2⟩:=h0
  have HMX:=hid (show ws.drop k=x :: ws.drop (k+1) from by rw [<- hx];exact List.drop_eq_getElem_cons hlt)
  have wk:IntKind.i64.wrap (k:Int)=(k:Int):=IntWalk.i64_in _ (by have:=HW.len;omega)
  have hS:(fun W=>W.cell? ⟨b,5,none⟩=some (.slice (some ⟨wb,off,none⟩) ws.length cw)/\W.cell? ⟨b,6,none⟩=some (.int .i64 (k:Int))/\W.cell? ⟨wb,off+k*3+1,none⟩=some (.int .i64 (x.2.1:Int))/\W.cell? ⟨wb,off+k*3+2,none⟩=some (.int .i64 (x.2.2:Int))) w.drew:=⟨HD.box.at 5 rfl,HD.box.at 6 rfl,h1,h2⟩
  clear hc hx h0 h1 h2
  have hFa:=fT
  refine rgP (fun _ _ _ h=>h) (fun W=>W.cell? ⟨b,5,none⟩=some (.slice (some ⟨wb,off,none⟩) ws.length cw)/\W.cell? ⟨b,6,none⟩=some (.int .i64 (k:Int))/\W.cell? ⟨wb,off+k*3+1,none⟩=some (.int .i64 (x.2.1:Int))/\W.cell? ⟨wb,off+k*3+2,none⟩=some (.int .i64 (x.2.2:Int))) 12 (by kernel_rfl) ?_
  simp only [zP,Nat.reduceAdd]
  iterate 11 (refine nxW (v:=?_) 12 hS ?_ ?_;rotate_left;(focus rintro w' ⟨s0,s1,s2,s3⟩;go_simp;try rfl);simp only [aP])
  refine oy 11 fun K hK=>?_
  go_simp
  (with_reducible refine (callsIn_wide.2 (pneed_any _ ((x.2.1:Int),(x.2.2:Int)) _ _)).mono ?_)
  rintro e wn ⟨hb,⟨hc,rfl⟩ | ⟨hc,rfl⟩⟩
  ·cases hc
  exact ⟨rfl,((Below.refl _ _).drew.drew.trans (hb.mono HBZ.out)),.inl ⟨_,by rw [HMX.out];rfl,rfl⟩⟩
 ·have HNIL:=hid (show ws.drop k=[] from List.drop_eq_nil_of_le (by omega))
  have hlf:decide (k<ws.length)=false:=by simpa using hlt
  go_wp2_with fail
  go_end0
  exact ⟨(Below.refl _ _).drew,.inr ⟨by rw [HNIL.out];rfl,HNIL.out,rfl,HD.below (Below.refl _ _).drew,(But.refl _ _).dr⟩⟩
theorem pdigit_any (s:Bs) (w:World) (hs:s ≠ []):Calls Tryz.prog 217 #[.string ⟨s.toArray⟩] w fun e w'=>e=.returned (.bool (digB (s.headD 0)))/\w'=w:=by
 obtain ⟨sb,hsb⟩:∃ sb:ByteArray,(⟨s.toArray⟩:ByteArray)=sb:=⟨_,rfl⟩
 have hsz:0<sb.size:=by rw [<- hsb,size_mk];exact List.length_pos_iff.2 hs
 have hh:s.headD 0=sb[0]:=by rw [<- head_of sb hsz,<- hsb]
 rw [hsb,hh]
 clear hsb hh hs
 obtain ⟨c,hc⟩:∃ c,sb[0]=c:=⟨_,rfl⟩
 rcases (show c.toNat<48\/(48<=c.toNat/\c.toNat<=57)\/(48<=c.toNat/\57<c.toNat) by omega) with h | ⟨h,h2⟩ | ⟨h,h2⟩
 ·rw [hc,dig_no (.inl h)]
  have a1:decide (48<=(c.toNat:Int))=false:=by simp;omega
  clear h
  go_enter Tryz.func217,Tryz.ntmps217
  go_wp2
  go_ret
  exact ⟨rfl,rfl⟩
 ·rw [hc,dig_yes h h2]
  have a1:decide (48<=(c.toNat:Int))=true:=by simp;omega
  have a2:decide ((c.toNat:Int)<=57)=true:=by simp;omega
  clear h h2
  go_enter Tryz.func217,Tryz.ntmps217
  go_wp2
  go_ret
  exact ⟨rfl,rfl⟩
 ·rw [hc,dig_no (.inr h2)]
  have a1:decide (48<=(c.toNat:Int))=true:=by simp;omega
  have a2:decide ((c.toNat:Int)<=57)=false:=by simp;omega
  clear h h2
  go_enter Tryz.func217,Tryz.ntmps217
  go_wp2
  go_ret
  exact ⟨rfl,rfl⟩
end Go.Proofs.YtoofbgoeipijcaaGreatDoor
