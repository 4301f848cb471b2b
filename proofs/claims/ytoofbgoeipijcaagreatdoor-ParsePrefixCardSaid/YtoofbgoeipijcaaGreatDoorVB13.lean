/-
 A part.
-/
import Derived.Test.YtoofbgoeipijcaaGreatDoorVB12
namespace Go.Proofs.YtoofbgoeipijcaaGreatDoor
set_option maxRecDepth 100000
set_option maxHeartbeats 4000000
set_option linter.all false
open Go.RowKit Go.Shelf
attribute [local go_sem] Oper.semAt_some
theorem next_mem {f:Int × Int} {ws:List Wd} {k:Nat} {a:Wd} {r:List Wd} (h:nextP f (ws.drop k)=.ok (a,r)):a ∈ ws:=by
 cases hd:ws.drop k with
 | nil=>rw [hd] at h;cases h
 | cons x q=>rw [hd] at h;cases h;exact List.mem_of_mem_drop (i:=k) (by rw [hd];exact List.mem_cons_self ..)
theorem numberP_eq {f:Int × Int} {most:Nat} {ws:List Wd} {a:Wd} {r:List Wd} {N:Nat} {E:Int} (h:nextP f ws=.ok (a,r)) (hn:numR a.1=(N,E)) :
  numberP f most ws=if E=0 then (if 1<=N then (if N<=most then .ok (N,r) else .error (wpos a,3)) else .error (wpos a,3)) else .error (wpos a,E):=by
 unfold numberP
 rw [h]
 simp only [bind,Except.bind,hn,needM]
 by_cases h0:E=0
 ·subst h0
  by_cases h1:1<=N <;> by_cases h2:N<=most <;> simp [h1,h2,pure,Except.pure]
 ·simp [h0]
theorem operandP_eq {f:Int × Int} {ws:List Wd} {a:Wd} {r:List Wd} {N:Nat} {E:Int} (h:nextP f ws=.ok (a,r)) (hn:numR a.1=(N,E)) :
  operandP f ws=if digB (a.1.headD 0)=true then (if E=0 then .ok (⟨[],N⟩,r) else .error (wpos a,E)) else (if namedB a.1=true then .ok (⟨a.1,0⟩,r) else .error (wpos a,4)):=by
 unfold operandP
 rw [h]
 simp only [bind,Except.bind,hn,needM]
 cases digB (a.1.headD 0) <;> cases namedB a.1 <;> by_cases h0:E=0 <;> simp [h0,pure,Except.pure]
theorem pnumber_any {B b:Nat} {O:Nat->Value} {wd:Int} {pw:Option Addr} {cw inn step:Nat} {ws:List Wd} {k:Nat} {w:World} (most:Nat) (hm0:most<=64) (hd:Rd b O wd pw cw inn step ws k w) (hk:k<=ws.length) (hw:WOk ws) (hB:B<=b):Calls Tryz.prog 213 #[.pointer (some ⟨b,0,none⟩),.int .u64 (most:Int)] w (RdP B b O wd pw cw inn step ws (fun (n:Nat) _ v=>v=.int .i64 (n:Int)) w (numberP (fpos ws) most (ws.drop k))):=by
 have HMO:=hid hm0
 clear hm0
 have HD:=hid hd;have HW:=hid hw;have HBB:=hid hB;have HLE:=hid hk;have HSZ:=hid hd.box.lt
 have HBZ:=hid (show B<=w.heap.size from Nat.le_of_lt (Nat.lt_of_le_of_lt hB hd.box.lt))
 clear hd hw hB hk
 go_enter Tryz.func213,Tryz.ntmps213
 go_upto_region 2 with (go_at_call 144;(with_reducible refine (next_any HD.out HLE.out HW.out HBB.out).mono ?_);rintro e w1 ⟨hb,⟨f1,hm,rfl⟩ | ⟨a,k1,v,hm,hk,rfl,hv,hd,hn⟩⟩;(focus (exact ⟨rfl,((But.refl (fun i=>i=b) w).below HBZ.out (fun i e=>e ▸ HBB.out)).trans hb,.inl ⟨f1,by unfold numberP;rw [hm];rfl,rfl⟩⟩));obtain rfl:v=.agg #[.string ⟨a.1.toArray⟩,.int .i64 (a.2.1:Int),.int .i64 (a.2.2:Int)]:=hv)
 have HN1:=hid ((But.refl (fun i=>i=b) w).trans hn)
 have HM:=hid hm;have HK1:=hid hk
 clear hb hm hk hn
 generalize hw3:World.alloc w1 _=w3
 have hX3:BxL 128 w1.heap.size [.string ⟨a.1.toArray⟩,.int .i64 (a.2.1:Int),.int .i64 (a.2.2:Int)] w3:=by rw [<- hw3];exact BxL.new _ _ _
 have HD3:=hid (show Rd b O wd pw cw inn step ws k1 w3 from by rw [<- hw3];exact hd.al _)
 have HN3:=hid (show But (fun i=>i=b) w w3 from by rw [<- hw3];exact HN1.al _)
 clear hw3 hd
 generalize hq:w1.heap.size=q at hX3 ⊢
 have HX3:=hid hX3
 have HQ:=hid (show w.heap.size<=q from by rw [<- hq];exact HN1.size)
 clear hq
 clear hX3
 obtain ⟨PR,hPR⟩:∃ P,numR a.1=P:=⟨_,rfl⟩
 have HP:=hid hPR
 clear hPR
 obtain ⟨N,E⟩:=PR
 have HLEN:=hid (show a.1.length<=140737488355328 from by have:=(HW.each a (next_mem HM.out)).2;omega)
 have HNE:=hid (HW.each a (next_mem HM.out)).1
 have HNUM:=hid (fun W=>show Calls Tryz.prog 218 #[.string ⟨a.1.toArray⟩] W (fun e w'=>e=.returned (.tuple #[.int .u64 (N:Int),.int .i64 E])/\Below W.heap.size W w') from by have h:=number_any a.1 W HLEN.out;rw [HP.out] at h;exact h)
 have HMD:=hid (numberP_eq (most:=most) HM.out HP.out)
 obtain ⟨n0,n1,n2⟩:=HX3.p3
 go_upto_region 4 with (first
  | (go_at_call 218;(with_reducible refine (HNUM.out _).mono ?_);rintro e w4 ⟨rfl,hb⟩;have HD4:=hid (HD3.out.below hb);have HN4:=hid (HN3.out.trans (But.of_below _ hb));have HX4:=hid (HX3.out.bel hb);clear hb n0 n1 n2;obtain ⟨n0,n1,n2⟩:=HX4.out.p3)
  | (go_at_call 68;(with_reducible refine (pneed_any _ ((a.2.1:Int),(a.2.2:Int)) _ _).mono ?_);rintro e w5 ⟨hb,⟨hc,rfl⟩ | ⟨hc,rfl⟩⟩;rotate_left;(focus (exact ⟨rfl,(HN4.out.trans (But.of_below _ hb)).below HBZ.out (fun i e=>e ▸ HBB.out),.inl ⟨_,by rw [HMD.out,if_neg (by simpa using hc)];rfl,rfl⟩⟩));have HC5:=hid hc;have HD5:=hid (HD4.out.below hb);have HN5:=hid (HN4.out.trans (But.of_below _ hb));have HX5:=hid (HX4.out.bel hb);clear hb hc n0 n1 n2;obtain ⟨n0,n1,n2⟩:=HX5.out.p3))
 have HE0:=hid (show E=0 from by simpa using HC5.out)
 by_cases h1:1<=N
 ·have a1:decide (1<=(N:Int))=true:=by simp;omega
  have H1:=hid h1
  clear h1
  go_upto_region 5 with (go_at_call 68;(with_reducible refine (pneed_any _ ((a.2.1:Int),(a.2.2:Int)) _ _).mono ?_);rintro e w6 ⟨hb,⟨hc,rfl⟩ | ⟨hc,rfl⟩⟩;rotate_left;(focus (exact ⟨rfl,(HN5.out.trans (But.of_below _ hb)).below HBZ.out (fun i e=>e ▸ HBB.out),.inl ⟨_,by rw [HMD.out,if_pos HE0.out,if_pos H1.out,if_neg (by simpa using hc)];rfl,rfl⟩⟩));have HC6:=hid hc;have HD6:=hid (HD5.out.below hb);have HN6:=hid (HN5.out.trans (But.of_below _ hb));have HX6:=hid (HX5.out.bel hb);clear hb hc n0 n1 n2;obtain ⟨n0,n1,n2⟩:=HX6.out.p3)
  have H2:=hid (show N<=most from by simpa using HC6.out)
  have wk:IntKind.i64.wrap (N:Int)=(N:Int):=IntWalk.i64_in _ (by have:=HMO.out;have:=H2.out;omega)
  have wk2:wrap64 (N:Int)=(N:Int):=by have:=HMO.out;have:=H2.out;unfold wrap64;omega
  go_wp2_with fail
  go_ret
  exact ⟨HN6.below HBZ.out (fun i e=>e ▸ HBB.out),.inr ⟨N,k1,_,by rw [HMD.out,if_pos HE0.out,if_pos H1.out,if_pos H2.out],HK1.out,rfl,rfl,HD6.out,HN6.out⟩⟩
 ·have a1:decide (1<=(N:Int))=false:=by simp;omega
  have H1:=hid h1
  clear h1
  go_wp2_with (go_at_call 68;(with_reducible refine (pneed_any _ ((a.2.1:Int),(a.2.2:Int)) _ _).mono ?_);rintro e w6 ⟨hb,⟨hc,rfl⟩ | ⟨hc,rfl⟩⟩;(focus (cases hc));exact ⟨rfl,(HN5.out.trans (But.of_below _ hb)).below HBZ.out (fun i e=>e ▸ HBB.out),.inl ⟨_,by rw [HMD.out,if_pos HE0.out,if_neg H1.out];rfl,rfl⟩⟩)
abbrev agV (x:Ag):Value := .agg #[.string ⟨x.nm.toArray⟩,.int .u64 (x.num:Int)]
theorem poperand_any {B b:Nat} {O:Nat->Value} {wd:Int} {pw:Option Addr} {cw inn step:Nat} {ws:List Wd} {k:Nat} {w:World} (hd:Rd b O wd pw cw inn step ws k w) (hk:k<=ws.length) (hw:WOk ws) (hB:B<=b):Calls Tryz.prog 199 #[.pointer (some ⟨b,0,none⟩)] w (RdP B b O wd pw cw inn step ws (fun (x:Ag) _ v=>v=agV x) w (operandP (fpos ws) (ws.drop k))):=by
 have HD:=hid hd;have HW:=hid hw;have HBB:=hid hB;have HLE:=hid hk;have HSZ:=hid hd.box.lt
 have HBZ:=hid (show B<=w.heap.size from Nat.le_of_lt (Nat.lt_of_le_of_lt hB hd.box.lt))
 clear hd hw hB hk
 go_enter Tryz.func199,Tryz.ntmps199
 go_upto_region 2 with (go_at_call 144;(with_reducible refine (next_any (HD.out.al _) HLE.out HW.out HBB.out).mono ?_);rintro e w1 ⟨hb,⟨f1,hm,rfl⟩ | ⟨a,k1,v,hm,hk,rfl,hv,hd,hn⟩⟩;(focus (exact ⟨rfl,((But.of_below (fun i=>i=b) ((Below.refl _ _).alloc (Nat.le_refl w.heap.size) (.cells #[.string ⟨#[]⟩,.int .u64 0] 43))).below HBZ.out (fun i e=>e ▸ HBB.out)).trans hb,.inl ⟨f1,by unfold operandP;rw [hm];rfl,rfl⟩⟩));obtain rfl:v=.agg #[.string ⟨a.1.toArray⟩,.int .i64 (a.2.1:Int),.int .i64 (a.2.2:Int)]:=hv)
 have HN1:=hid ((But.of_below (fun i=>i=b) ((Below.refl _ _).alloc (Nat.le_refl w.heap.size) (.cells #[.string ⟨#[]⟩,.int .u64 0] 43))).trans hn)
 have HR1:=hid ((BxL.new 43 w [.string ⟨#[]⟩,.int .u64 0]).but hn (by have:=HSZ.out;omega))
 have HM:=hid hm;have HK1:=hid hk
 clear hb hm hk hn
 generalize hw3:World.alloc w1 _=w3
 have hX3:BxL 128 w1.heap.size [.string ⟨a.1.toArray⟩,.int .i64 (a.2.1:Int),.int .i64 (a.2.2:Int)] w3:=by rw [<- hw3];exact BxL.new _ _ _
 have HD3:=hid (show Rd b O wd pw cw inn step ws k1 w3 from by rw [<- hw3];exact hd.al _)
 have HN3:=hid (show But (fun i=>i=b) w w3 from by rw [<- hw3];exact HN1.al _)
 have HR3:=hid (show BxL 43 w.heap.size [.string ⟨#[]⟩,.int .u64 0] w3 from by rw [<- hw3];exact HR1.al _)
 clear hw3 hd
 generalize hq:w1.heap.size=q at hX3 ⊢
 have HX3:=hid hX3
 have HQ:=hid (show w.heap.size<=q from by rw [<- hq];exact HN1.size)
 clear hq
 clear hX3
 obtain ⟨PR,hPR⟩:∃ P,numR a.1=P:=⟨_,rfl⟩
 have HP:=hid hPR
 clear hPR
 obtain ⟨N,E⟩:=PR
 have HLEN:=hid (show a.1.length<=140737488355328 from by have:=(HW.each a (next_mem HM.out)).2;omega)
 have HNE:=hid (HW.each a (next_mem HM.out)).1
 have HNUM:=hid (fun W=>show Calls Tryz.prog 218 #[.string ⟨a.1.toArray⟩] W (fun e w'=>e=.returned (.tuple #[.int .u64 (N:Int),.int .i64 E])/\Below W.heap.size W w') from by have h:=number_any a.1 W HLEN.out;rw [HP.out] at h;exact h)
 have HMD:=hid (operandP_eq HM.out HP.out)
 obtain ⟨D,hD⟩:∃ D,digB (a.1.headD 0)=D:=⟨_,rfl⟩
 have HDIG:=hid (fun W=>show Calls Tryz.prog 217 #[.string ⟨a.1.toArray⟩] W (fun e w'=>e=.returned (.bool D)/\w'=W) from by have h:=pdigit_any a.1 W HNE.out;rw [hD] at h;exact h)
 have HDD:=hid hD
 clear hD
 obtain ⟨n0,n1,n2⟩:=HX3.p3
 cases D
 ·go_upto_region 6 with (go_at_call 217;(with_reducible refine (HDIG.out _).mono ?_);rintro e w3 ⟨rfl,rfl⟩)
  have HF:=hid (show operandP (fpos ws) (ws.drop k)=if namedB a.1=true then .ok (⟨a.1,0⟩,ws.drop k1) else .error (wpos a,4) from by rw [HMD.out,if_neg (by rw [HDD.out];simp)])
  have hS:(fun W=>W.cell? ⟨q,0,none⟩=some (.string ⟨a.1.toArray⟩)/\W.cell? ⟨q,1,none⟩=some (.int .i64 (a.2.1:Int))/\W.cell? ⟨q,2,none⟩=some (.int .i64 (a.2.2:Int))) w3.drew:=HX3.p3
  clear n0 n1 n2
  have hFa:=fT
  refine rgP (fun _ _ _ h=>h) (fun W=>W.cell? ⟨q,0,none⟩=some (.string ⟨a.1.toArray⟩)/\W.cell? ⟨q,1,none⟩=some (.int .i64 (a.2.1:Int))/\W.cell? ⟨q,2,none⟩=some (.int .i64 (a.2.2:Int))) 6 (by kernel_rfl) ?_
  simp only [zP,Nat.reduceAdd]
  iterate 2 (refine nxW (v:=?_) 6 hS ?_ ?_;rotate_left;(focus rintro w' ⟨s0,s1,s2⟩;go_simp;try rfl);simp only [aP])
  iterate 2 (refine nxW (v:=?_) 7 hS ?_ ?_;rotate_left;(focus rintro w' ⟨s0,s1,s2⟩;go_simp;try rfl);simp only [aP])
  refine oy 2 fun K hK=>?_
  go_simp
  (with_reducible refine (callsIn_wide.2 (pnamed_any a.1 _)).mono ?_)
  rintro e w4 ⟨rfl,hb⟩
  have HD4:=hid ((HD3.below (Below.refl _ _).drew).below hb)
  have HN4:=hid (HN3.dr.trans (But.of_below _ hb))
  have HR4:=hid ((HR3.bel (Below.refl _ _).drew).bel hb)
  have HX4:=hid ((HX3.bel (Below.refl _ _).drew).bel hb)
  have hS4:(fun W=>W.cell? ⟨q,0,none⟩=some (.string ⟨a.1.toArray⟩)/\W.cell? ⟨q,1,none⟩=some (.int .i64 (a.2.1:Int))/\W.cell? ⟨q,2,none⟩=some (.int .i64 (a.2.2:Int))) w4:=HX4.p3
  clear hb hS
  refine hK _ _ (.inr (.inr hS4)) ?_
  clear hK K
  refine oy 5 fun K hK=>?_
  go_simp
  (with_reducible refine (callsIn_wide.2 (pneed_any _ ((a.2.1:Int),(a.2.2:Int)) _ _)).mono ?_)
  rintro e w5 ⟨hb,⟨hc,rfl⟩ | ⟨hc,rfl⟩⟩
  rotate_left
  ·exact ⟨rfl,(HN4.trans (But.of_below _ hb)).below HBZ.out (fun i e=>e ▸ HBB.out),.inl ⟨_,by rw [HF.out,if_neg (by rw [hc];simp)];rfl,rfl⟩⟩
  have HC5:=hid hc
  have HD5:=hid (HD4.below hb)
  have HN5:=hid (HN4.trans (But.of_below _ hb))
  have HR5:=hid (HR4.bel hb)
  have HX5:=hid (HX4.bel hb)
  have hS5:(fun W=>W.cell? ⟨q,0,none⟩=some (.string ⟨a.1.toArray⟩)/\W.cell? ⟨q,1,none⟩=some (.int .i64 (a.2.1:Int))/\W.cell? ⟨q,2,none⟩=some (.int .i64 (a.2.2:Int))) w5:=HX5.p3
  clear hb hc hS4
  refine hK _ _ (.inr (.inr hS5)) (dN ?_)
  clear hK K
  simp only [onlyP,Exit.then]
  clear hFa
  clear hS5
  obtain ⟨n0,n1,n2⟩:=HX5.p3
  obtain ⟨t0,t1⟩:=HR5.p2
  have f0:=HR5.fr 0
  have f1:=HR5.fr 1
  go_wp2_with fail
  generalize hw9:World.setCell _ _ _=w9
  have hX9:BxL 43 w.heap.size [.string ⟨a.1.toArray⟩,.int .u64 0] w9:=by rw [<- hw9];exact ((HR5.set 0 _).set 1 _)
  have hD9:Rd b O wd pw cw inn step ws k1 w9:=by rw [<- hw9];exact ((HD5.other _ HSZ.out).other _ HSZ.out)
  have hN9:But (fun i=>i=b) w w9:=by rw [<- hw9];exact ((HN5.setC _ (.inr lrf)).setC _ (.inr lrf))
  clear hw9
  obtain ⟨g0,g1⟩:=hX9.p2
  refine bodyPost_ret (v := .agg #[.string ⟨a.1.toArray⟩,.int .u64 0]) (by simp [results,Tryz.results199,go_sem,g0,g1]) rfl ?_
  exact ⟨hN9.below HBZ.out (fun i e=>e ▸ HBB.out),.inr ⟨(⟨a.1,0⟩:Ag),k1,_,by rw [HF.out,if_pos HC5.out],HK1.out,rfl,rfl,hD9,hN9⟩⟩
 ·have HF:=hid (show operandP (fpos ws) (ws.drop k)=if E=0 then .ok (⟨[],N⟩,ws.drop k1) else .error (wpos a,E) from by rw [HMD.out,if_pos HDD.out])
  go_upto_region 5 with (first
   | (go_at_call 217;(with_reducible refine (HDIG.out _).mono ?_);rintro e w3 ⟨rfl,rfl⟩)
   | (go_at_call 218;(with_reducible refine (HNUM.out _).mono ?_);rintro e w4 ⟨rfl,hb⟩;have HD4:=hid (HD3.out.below hb);have HN4:=hid (HN3.out.trans (But.of_below _ hb));have HX4:=hid (HX3.out.bel hb);have HR4:=hid (HR3.out.bel hb);clear hb n0 n1 n2;obtain ⟨n0,n1,n2⟩:=HX4.out.p3)
   | (go_at_call 68;(with_reducible refine (pneed_any _ ((a.2.1:Int),(a.2.2:Int)) _ _).mono ?_);rintro e w5 ⟨hb,⟨hc,rfl⟩ | ⟨hc,rfl⟩⟩;rotate_left;(focus (exact ⟨rfl,(HN4.out.trans (But.of_below _ hb)).below HBZ.out (fun i e=>e ▸ HBB.out),.inl ⟨_,by rw [HF.out,if_neg (by simpa using hc)];rfl,rfl⟩⟩));have HC5:=hid hc;have HD5:=hid (HD4.out.below hb);have HN5:=hid (HN4.out.trans (But.of_below _ hb));have HX5:=hid (HX4.out.bel hb);have HR5:=hid (HR4.out.bel hb);clear hb hc n0 n1 n2;obtain ⟨n0,n1,n2⟩:=HX5.out.p3))
  have HE0:=hid (show E=0 from by simpa using HC5.out)
  obtain ⟨t0,t1⟩:=HR5.p2
  have f0:=HR5.fr 0
  have f1:=HR5.fr 1
  go_wp2_with fail
  generalize hw9:World.setCell _ _ _=w9
  have hX9:BxL 43 w.heap.size [.string ⟨#[]⟩,.int .u64 (N:Int)] w9:=by rw [<- hw9];exact ((HR5.set 0 _).set 1 _)
  have hD9:Rd b O wd pw cw inn step ws k1 w9:=by rw [<- hw9];exact ((HD5.other _ HSZ.out).other _ HSZ.out)
  have hN9:But (fun i=>i=b) w w9:=by rw [<- hw9];exact ((HN5.setC _ (.inr lrf)).setC _ (.inr lrf))
  clear hw9
  obtain ⟨g0,g1⟩:=hX9.p2
  refine bodyPost_ret (v := .agg #[.string ⟨#[]⟩,.int .u64 (N:Int)]) (by simp [results,Tryz.results199,go_sem,g0,g1]) rfl ?_
  exact ⟨hN9.below HBZ.out (fun i e=>e ▸ HBB.out),.inr ⟨(⟨[],N⟩:Ag),k1,_,by rw [HF.out,if_pos HE0.out],HK1.out,rfl,rfl,hD9,hN9⟩⟩
def appP (l:List Ag):PE (List Ag × List Wd)->PE (List Ag × List Wd)
 | .error e => .error e
 | .ok (q,r) => .ok (l++q,r)
theorem appP_nil (m:PE (List Ag × List Wd)):appP [] m=m:=by cases m <;> rfl
theorem operandsP_err {f:Int × Int} {n:Nat} {ws:List Wd} {g:Flt} (h:operandP f ws=.error g):operandsP f (n+1) ws=.error g:=by
 rw [operandsP,h];rfl
theorem operandsP_ok {f:Int × Int} {n:Nat} {ws r:List Wd} {a:Ag} (l:List Ag) (h:operandP f ws=.ok (a,r)):appP l (operandsP f (n+1) ws)=appP (l++[a]) (operandsP f n r):=by
 rw [operandsP,h]
 simp only [bind,Except.bind]
 cases operandsP f n r with
 | error e=>rfl
 | ok p=>simp [appP,pure,Except.pure]
theorem But.push {F:Nat->Prop} {w0 w w':World} {α:Type} {K:EK α} {B e:Nat} {v:Value} {l:List α} {o:Obj} (hb:But F w0 w) (h:GA K B e w v l) (hB:w0.heap.size<=B) (hg:(w.alloc o).grownBy w' v.ownBlock):But F w0 w':=by
 have hs:=hg.size
 rw [sA] at hs
 refine ⟨hg.os.trans hb.os,hg.tape.trans hb.tape,hg.output.trans hb.output,Nat.le_trans hb.size (by omega),fun k hk hF=>?_⟩
 have:=hb.size
 rw [hg.block k (by rw [sA];omega) (fun e=>by have:=(h.lt k e.symm).1;omega),heap_al,if_neg (by omega)]
 exact hb.block k hk hF
theorem Rd.keepB {b:Nat} {O:Nat->Value} {wd:Int} {pw:Option Addr} {cw inn step:Nat} {ws:List Wd} {k:Nat} {w w':World} (h:Rd b O wd pw cw inn step ws k w) (hk:∀ i,i<=b->w'.heap[i]?=w.heap[i]?):Rd b O wd pw cw inn step ws k w' :=
 ⟨h.box.keep (hk b lrf),h.row.keep fun i hi=>⟨hi,hk i (Nat.le_of_lt hi)⟩⟩
theorem ga_keepA {B e:Nat} {w w':World} {v:Value} {l:List Ag} (h:GA kAg B e w v l) (hf:∀ j,v.ownBlock=some j->w'.heap[j]?=w.heap[j]?):GA kAg B e w' v l:=by
 obtain ⟨css,h1,h2⟩:=h.row
 exact ⟨⟨css,⟨h1.1,fun i hi hi'=>h1.2 i hi hi'⟩,owns_keepG h2 hf⟩⟩
theorem info_arg:(Tryz.prog.info? 43).map (fun i=>(i.zero,i.size,i.bytes))=some (some (agV ⟨[],0⟩),2,24):=by kernel_rfl
theorem poperands_any {B b:Nat} {O:Nat->Value} {wd:Int} {pw:Option Addr} {cw inn step:Nat} {ws:List Wd} {k:Nat} {w:World} (n:Nat) (hn:n<=1000) (hd:Rd b O wd pw cw inn step ws k w) (hk:k<=ws.length) (hw:WOk ws) (hB:B<=b):Calls Tryz.prog 196 #[.pointer (some ⟨b,0,none⟩),.int .i64 (n:Int)] w (RdP B b O wd pw cw inn step ws (fun (l:List Ag) w' v=>SlG kAg (fun i=>w.heap.size<=i/\i<w'.heap.size) w' v l/\l.length=n) w (operandsP (fpos ws) n (ws.drop k))):=by
 have HNN:=hid hn
 clear hn
 have HD:=hid hd;have HW:=hid hw;have HBB:=hid hB;have HLE:=hid hk;have HSZ:=hid hd.box.lt
 have HBZ:=hid (show B<=w.heap.size from Nat.le_of_lt (Nat.lt_of_le_of_lt hB hd.box.lt))
 clear hd hw hB hk
 go_enter Tryz.func196,Tryz.ntmps196
 go_wp2
 go_loopw [5,7] (fun ov iv wr=>∃ (j:Nat) (kj:Nat) (l:List Ag),j<=n/\iv=.int .i64 (j:Int)/\kj<=ws.length/\l.length=j/\operandsP (fpos ws) n (ws.drop k)=appP l (operandsP (fpos ws) (n - j) (ws.drop kj))/\GA kAg w.heap.size 43 wr ov l/\Rd b O wd pw cw inn step ws kj wr/\But (fun i=>i=b) w wr) (fun _ iv _=>n - (intOf iv).toNat)
 case atStart=>exact ⟨0,k,[],Nat.zero_le _,rfl,HLE.out,rfl,(appP_nil _).symm,GA.nil _ _ _ _,HD.out,But.refl _ _⟩
 case round =>
  obtain ⟨j,kj,l,hj,rfl,hkj,hl,hmo,hga,hdj,hnj⟩:=hrel
  have HL:=hid hl;have HMO:=hid hmo;have HGA:=hid hga;have HDJ:=hid hdj;have HNJ:=hid hnj;have HKJ:=hid hkj
  clear hl hmo hdj hnj hkj
  by_cases hlt:j<n
  ·have HSN:=hid (show n - j=n - (j+1)+1 from by omega)
   have HLT:=hid hlt
   obtain ⟨po,co,rfl⟩:=hga.slc
   obtain ⟨T,hT⟩:∃ T,l.length=T:=⟨_,rfl⟩
   rw [hT] at HGA ⊢
   have HTD:=hid hT
   clear hga hT hlt
   go_wp2_with (first
    | (go_at_call 199;(with_reducible refine (poperand_any HDJ.out HKJ.out HW.out HBB.out).mono ?_);rintro e w4 ⟨hb,⟨f1,hm,rfl⟩ | ⟨a,k4,v,hm,hk4,rfl,hv,hd4,hn4⟩⟩;(focus (exact ⟨rfl,(HNJ.out.below HBZ.out (fun i e=>e ▸ HBB.out)).trans hb,.inl ⟨f1,by rw [HMO.out,HSN.out,operandsP_err hm];rfl,rfl⟩⟩));obtain rfl:v=.agg #[.string ⟨a.nm.toArray⟩,.int .u64 (a.num:Int)]:=hv;have HG4:=hid (ga_keepA HGA.out fun i hi=>hn4.block i (HGA.out.lt i hi).2 (by have:=(HGA.out.lt i hi).1;have:=HSZ.out;omega));have HM4:=hid hm;have HK4:=hid hk4;have HD4:=hid hd4;have HN4:=hid (HNJ.out.trans hn4);clear hb hm hk4 hd4 hn4)
    | (at_builtin;refine wpList_push (K:=kAg) (x:=a) (cs:=[.string ⟨a.nm.toArray⟩,.int .u64 (a.num:Int)]) (te:=43) rfl _ _ 37 rfl Tryz.underlying37 _ 24 info_arg rfl HG4.out rfl rfl rfl (by have:=HTD.out;have:=HL.out;have:=HLT.out;have:=HNN.out;omega) (by have:=HTD.out;have:=HL.out;have:=HLT.out;have:=HNN.out;unfold maxLen;omega) HN4.out.size ?_;intro v5 w5 hg5 hgr5 hm5;have HG5:=hid hg5;have HN5:=hid (HN4.out.push HG4.out lrf hgr5);have HD5:=hid (HD4.out.keepB fun i hi=>by (rw [hgr5.block i (by rw [sA];have:=HN4.out.size;have:=HSZ.out;omega) (fun e=>by have:=(HG4.out.lt i e.symm).1;have:=HSZ.out;omega),heap_al,if_neg (by have:=HN4.out.size;have:=HSZ.out;omega)]));clear hg5 hgr5 hm5))
   go_roundw
   case rel=>exact ⟨j+1,k4,l++[a],HLT.out,by rw [wrap_next HLT.out (by have:=HNN.out;omega)],HK4.out,by rw [List.length_append,HL.out];rfl,by rw [HMO.out,HSN.out,operandsP_ok l HM4.out],HG5.out,HD5.out,HN5.out⟩
   case measure=>exact meas_next HLT.out (by have:=HNN.out;omega)
  ·obtain rfl:j=n:=by omega
   clear hlt
   go_wp2_with fail
   go_ret
   refine ⟨HNJ.below HBZ.out (fun i e=>e ▸ HBB.out),.inr ⟨l,kj,_,by rw [HMO.out,Nat.sub_self];simp [operandsP,appP,pure,Except.pure],HKJ.out,rfl,⟨?_,HL.out⟩,HDJ.out,HNJ.out⟩⟩
   obtain ⟨css,h1,h2⟩:=HGA.row
   refine (GR.sl (R:=fun _=>False) (B:=w.heap.size) (e:=43) ⟨css,⟨h1.1,fun i hi hi'=>h1.2 i hi hi'⟩,h2⟩ (by have:=HL.out;have:=HNN.out;omega)).weaken fun i hi=>?_
   rcases hi with hi | hi
   ·exact hi.elim
   ·exact HGA.lt i hi
theorem BxL.row {t:TypeId} {q:Nat} {cs:List Value} {w:World} (h:BxL t q cs w):RowR (fun _=>True) w (some ⟨q,0,none⟩) cs :=
 .inr ⟨q,0,rfl,trivial,fun j hj=>by rw [Nat.zero_add];exact h.at j (List.getElem?_eq_getElem hj)⟩
section
variable {P:Program} {α:Type} {K:EK α} {R:Nat->Prop} {B:Nat} {w:World} {v:Value} {l:List α} {x:α} {cs:List Value} {te:TypeId}
theorem run_pushB (t ty:TypeId) (ht:P.underlying t=some (.slice te)) (z:Value) (bytes:Nat) (hinfo:(P.info? te).map (fun i=>(i.zero,i.size,i.bytes))=some (some z,K.n,bytes)) (hzs:z.cells.size=K.n)
  (h:GR K R B te w v l) (hR:∀ k,R k->k<w.heap.size/\v.ownBlock ≠ some k) (hx:K.E R w cs x) {q:Nat} (hq:BxL te q cs w)
  (hl:(l.length+1)*bytes<=140737488355328) (h63:l.length+1<=maxLen) (hB:B<=w.heap.size) :
  ∃ v' w',(Builtin.append_ #[t,t] ty #[v,.slice (some ⟨q,0,none⟩) 1 1]).run P w=.ok v' w'/\GR K R B te w' v' (l++[x])/\w.grownBy w' v.ownBlock/\Moved w v v':=by
 obtain ⟨css,h1,h2⟩:=h
 obtain ⟨v',w',hrun,ho',hg,hv⟩:=run_appG (P:=P) w B t ty te z K.n bytes ht hinfo hzs K.pos v l.length css.flatten h2 ⟨q,0,none⟩ 1 1 cs (by rw [K.len hx];omega) hq.row (K.one hx) hl h63 hB
 have hsame:∀ k,R k->w'.heap[k]?=w.heap[k]?:=fun k hk=>by
  obtain ⟨a,b⟩:=hR k hk
  exact hg.block k a fun e=>b e.symm
 refine ⟨v',w',hrun,⟨css++[cs],(h1.keep fun k hk=>⟨hk,hsame k hk⟩).snoc (K.keep hx fun k hk=>⟨hk,hsame k hk⟩),?_⟩,hg,?_⟩
 ·rw [List.length_append,List.flatten_append];simpa using ho'
 ·rcases hv with e | e
  ·exact .inl e
  ·exact .inr ⟨_,e,Nat.le_refl _⟩
theorem wpIn_pushB {F:Fence} {n0:Nat} (hF:∀ f,F.fn f) {o:Oper} {a:Act} {KK:Act->World->Prop} {Q:Exit->Act->World->Prop} (s y:Operand) (t:TypeId)
  (ho:o.op=.call { callee := .builtin .append,args:=#[s,y],argTypes:=#[t,t] }) (ht:P.underlying t=some (.slice te)) (z:Value) (bytes:Nat) (hinfo:(P.info? te).map (fun i=>(i.zero,i.size,i.bytes))=some (some z,K.n,bytes)) (hzs:z.cells.size=K.n)
  (h:GR K R B te w v l) (hR:∀ k,R k->k<w.heap.size/\v.ownBlock ≠ some k) (hx:K.E R w cs x) {q:Nat} (hq:BxL te q cs w) (hs:a.eval s=v) (hy:a.eval y=.slice (some ⟨q,0,none⟩) 1 1)
  (hl:(l.length+1)*bytes<=140737488355328) (h63:l.length+1<=maxLen) (hB:B<=w.heap.size)
  (hK:∀ v' w',GR K R B te w' v' (l++[x])->w.grownBy w' v.ownBlock->Moved w v v'->KK (a.put o.dst v') w'):o.wpIn F n0 P a w KK Q:=by
 obtain ⟨v',w',hrun,h2,h3,h4⟩:=run_pushB (P:=P) t o.type ht z bytes hinfo hzs h hR hx hq hl h63 hB
 refine ⟨fun f _=>hF f,?_⟩
 rw [Oper.semAt_eq _ _ _ (fun c e=>by rw [ho] at e;cases e)]
 unfold execOp
 simp only [ho,resolve,invoke,builtin,Sem.run_bind,Sem.run_pure,Result.andThen_ok,List.map_toArray,List.map_cons,List.map_nil,hs,hy,hrun,Oper.uponIn]
 exact hK v' w' h2 h3 h4
theorem wpList_pushB {ops:Array Oper} {rest:List Oper} {o:Oper} {a:Act} {Q:Exit->Act->World->Prop} (hgd:o.guard=none) (s y:Operand) (t:TypeId)
  (ho:o.op=.call { callee := .builtin .append,args:=#[s,y],argTypes:=#[t,t] }) (ht:P.underlying t=some (.slice te)) (z:Value) (bytes:Nat) (hinfo:(P.info? te).map (fun i=>(i.zero,i.size,i.bytes))=some (some z,K.n,bytes)) (hzs:z.cells.size=K.n)
  (h:GR K R B te w v l) (hR:∀ k,R k->k<w.heap.size/\v.ownBlock ≠ some k) (hx:K.E R w cs x) {q:Nat} (hq:BxL te q cs w) (hs:a.eval s=v) (hy:a.eval y=.slice (some ⟨q,0,none⟩) 1 1)
  (hl:(l.length+1)*bytes<=140737488355328) (h63:l.length+1<=maxLen) (hB:B<=w.heap.size)
  (hK:∀ v' w',GR K R B te w' v' (l++[x])->w.grownBy w' v.ownBlock->Moved w v v'->wpList P ops Q rest (a.put o.dst v') w'):wpList P ops Q (o :: rest) a w:=by
 refine wpList_plain hgd fun _ hK'=>?_
 obtain ⟨v',w',hrun,h2,h3,h4⟩:=run_pushB (P:=P) t o.type ht z bytes hinfo hzs h hR hx hq hl h63 hB
 unfold Oper.wp execOp
 simp only [ho,resolve,invoke,builtin,Sem.run_bind,Sem.run_pure,Result.andThen_ok,List.map_toArray,List.map_cons,List.map_nil,hs,hy,hrun]
 exact hK' _ _ (hK v' w' h2 h3 h4)
end
theorem GR.str {R R':Nat->Prop} {B e:Nat} {w:World} {v:Value} {l:List Bs} (h:GR kStr R B e w v l):GR kStr R' B e w v l:=let ⟨css,h1,h2⟩:=h;⟨css,⟨h1.1,fun i hi hi'=>h1.2 i hi hi'⟩,h2⟩
theorem GR.arr {R R':Nat->Prop} {B e:Nat} {w:World} {v:Value} {l:List Ar} (h:GR kAr R B e w v l):GR kAr R' B e w v l:=let ⟨css,h1,h2⟩:=h;⟨css,⟨h1.1,fun i hi hi'=>h1.2 i hi hi'⟩,h2⟩
theorem GR.own {α:Type} {K:EK α} {R:Nat->Prop} {B e:Nat} {w w':World} {v:Value} {l:List α} (h:GR K R B e w v l) (ho:∀ j,v.ownBlock=some j->w'.heap[j]?=w.heap[j]?) (hE:∀ k,R k->w'.heap[k]?=w.heap[k]?):GR K R B e w' v l:=h.keep (fun k hk=>⟨hk,hE k hk⟩) ho
theorem FuR.stay {b j inn:Nat} {O:Nat->Value} {w w':World} {v':Value} {fs:List Fu} (h:FuR b O w inn fs) (ho:Owns b O w) (hs:Step b O j w w') (hm:Moved w (O j) v') (h3:3 ≠ j) (h20:20 ≠ j):FuR b (upd O j v') w' inn fs:=by
 obtain ⟨css,h1,h2⟩:=h
 have hk:∀ i,i ≠ j->∀ k,(O i).ownBlock=some k->w'.heap[k]?=w.heap[k]?:=fun i hi k hk=>hs.block k (ho.lt i k hk).2 (by have:=(ho.lt i k hk).1;omega) (ho.ne i j k hi hk)
 have hf:∀ k,Fin' b O w k->Fin' b (upd O j v') w' k/\w'.heap[k]?=w.heap[k]?:=fun k hk=>⟨hk.moved hm hs.size,hs.block k hk.1 hk.2.1 (hk.2.2 j)⟩
 refine ⟨css,by rw [upd_ne O v' h3];exact owns_keepG h1 (hk 3 h3),?_⟩
 rcases h2 with ⟨e,cs0,gs,f,pv,e1,e2,g1,g2,g3⟩ | ⟨e,e1,g1⟩
 ·exact .inl ⟨e,cs0,gs,f,pv,e1,by rw [e2,upd_ne O v' h20],g1.keep hf,g2.keep hf,by rw [upd_ne O v' h20];exact g3.keep hf (hk 20 h20)⟩
 ·exact .inr ⟨e,by rw [upd_ne O v' h20];exact e1,g1.keep hf⟩
theorem FuR.fin {b inn:Nat} {O:Nat->Value} {w w':World} {fs:List Fu} (h:FuR b O w inn fs) (ho:Owns b O w) (hs:But (fun k=>k=b) w w'):FuR b O w' inn fs:=by
 obtain ⟨css,h1,h2⟩:=h
 have hk:∀ i k,(O i).ownBlock=some k->w'.heap[k]?=w.heap[k]?:=fun i k hk=>hs.block k (ho.lt i k hk).2 (by have:=(ho.lt i k hk).1;omega)
 have hf:∀ k,Fin' b O w k->Fin' b O w' k/\w'.heap[k]?=w.heap[k]?:=fun k hk=>⟨hk.size hs.size,hs.block k hk.1 hk.2.1⟩
 refine ⟨css,owns_keepG h1 (hk 3),?_⟩
 rcases h2 with ⟨e,cs0,gs,f,pv,e1,e2,g1,g2,g3⟩ | ⟨e,e1,g1⟩
 ·exact .inl ⟨e,cs0,gs,f,pv,e1,e2,g1.keep hf,g2.keep hf,g3.keep hf (hk 20)⟩
 ·exact .inr ⟨e,e1,g1.keep hf⟩
theorem PsR.but {b:Nat} {w w':World} {O:Nat->Value} {S:PS} (h:PsR b w O S) (hs:But (fun k=>k=b) w w'):PsR b w' O S:=by
 have hb:∀ i,(O i).ownBlock ≠ some b:=fun i e=>by have:=(h.ow.lt i b e).1;omega
 exact ⟨h.ow.size hs.size,h.ch.fin hs (hb 1),h.ar.fin hs (hb 2),h.fu.fin h.ow hs,h.mn.fin hs (hb 4),h.an.fin hs (hb 7),h.fn.fin hs (hb 8),h.lb.fin hs (hb 9),h.st.fin hs (hb 10)⟩
structure Pm (B b:Nat) (O:Nat->Value) (pw:Option Addr) (cw:Nat) (ws:List Wd) (S:PS) (k:Nat) (w:World):Prop where
 rd:Rd b O S.p.width pw cw S.inn S.step ws k w
 rs:PsR b w O S
 ge:B<=b
 le:k<=ws.length
section
variable {B b:Nat} {O:Nat->Value} {pw:Option Addr} {cw:Nat} {ws:List Wd} {S:PS} {k:Nat} {w w':World}
theorem Pm.lt (h:Pm B b O pw cw ws S k w):b<w.heap.size:=h.rd.box.lt
theorem Pm.size (h:Pm B b O pw cw ws S k w):B<=w.heap.size:=Nat.le_of_lt (Nat.lt_of_le_of_lt h.ge h.lt)
theorem Pm.read (h:Pm B b O pw cw ws S k w) {k':Nat} (hd:Rd b O S.p.width pw cw S.inn S.step ws k' w') (hn:But (fun k=>k=b) w w') (hk:k'<=ws.length):Pm B b O pw cw ws S k' w':=⟨hd,h.rs.but hn,h.ge,hk⟩
theorem Pm.below (h:Pm B b O pw cw ws S k w) (hb:Below w.heap.size w w'):Pm B b O pw cw ws S k w':=h.read (h.rd.below hb) (But.of_below _ hb) h.le
theorem Pm.al (h:Pm B b O pw cw ws S k w) (o:Obj):Pm B b O pw cw ws S k (w.alloc o):=h.below (bA)
theorem Pm.dr (h:Pm B b O pw cw ws S k w):Pm B b O pw cw ws S k w.drew:=h.below (Below.refl _ _).drew
theorem Pm.other (h:Pm B b O pw cw ws S k w) {c i:Nat} (v:Value) (hc:b<c) (hlt:w.heap.size<=c\/(∀ j,(O j).ownBlock ≠ some c)) (hF:∀ j,Fin' b O w j->j ≠ c):Pm B b O pw cw ws S k (w.setCell ⟨c,i,none⟩ v):=by
 have hs:∀ j,j ≠ c->(w.setCell ⟨c,i,none⟩ v).heap[j]?=w.heap[j]?:=fun j hj=>heap_ot hj _
 have ho:∀ i j,(O i).ownBlock=some j->j ≠ c:=fun i j hj e=>by
  subst e
  rcases hlt with hl | hl
  ·have:=(h.rs.ow.lt i j hj).2;omega
  ·exact hl i hj
 have hf:∀ j,Fin' b O w j->Fin' b O (w.setCell ⟨c,i,none⟩ v) j/\(w.setCell ⟨c,i,none⟩ v).heap[j]?=w.heap[j]?:=fun j hj=>⟨hj.size (by simp only [World.size_setCell];exact Nat.le_refl _),hs j (hF j hj)⟩
 refine ⟨h.rd.other v hc,⟨h.rs.ow.size (by simp only [World.size_setCell];exact Nat.le_refl _),h.rs.ch.keep hf fun j hj=>hs j (ho 1 j hj),h.rs.ar.keep hf fun j hj=>hs j (ho 2 j hj),?_,h.rs.mn.keep hf fun j hj=>hs j (ho 4 j hj),h.rs.an.keep hf fun j hj=>hs j (ho 7 j hj),h.rs.fn.keep hf fun j hj=>hs j (ho 8 j hj),h.rs.lb.keep hf fun j hj=>hs j (ho 9 j hj),h.rs.st.keep hf fun j hj=>hs j (ho 10 j hj)⟩,h.ge,h.le⟩
 obtain ⟨css,h1,h2⟩:=h.rs.fu
 refine ⟨css,owns_keepG h1 fun j hj=>hs j (ho 3 j hj),?_⟩
 rcases h2 with ⟨e,cs0,gs,f,pv,e1,e2,g1,g2,g3⟩ | ⟨e,e1,g1⟩
 ·exact .inl ⟨e,cs0,gs,f,pv,e1,e2,g1.keep hf,g2.keep hf,g3.keep hf fun j hj=>hs j (ho 20 j hj)⟩
 ·exact .inr ⟨e,e1,g1.keep hf⟩
theorem Pm.grow (h:Pm B b O pw cw ws S k w) {j c:Nat} {v':Value} (hb:Below w.heap.size w w') {w8:World} (hg:w'.grownBy w8 (O j).ownBlock) (hm:Moved w' (O j) v') (hv:∀ i,v'.ownBlock=some i->i<w8.heap.size) :
  Step b O j w (w8.setCell ⟨b,c,none⟩ v')/\Owns b (upd O j v') (w8.setCell ⟨b,c,none⟩ v')/\Moved w (O j) v'/\RowR (·<b) (w8.setCell ⟨b,c,none⟩ v') pw (wflat ws):=by
 have hst:Step b O j w w8:=⟨hg.os.trans hb.os,hg.tape.trans hb.tape,hg.output.trans hb.output,Nat.le_trans hb.size hg.size,fun i hi hib hne=>(hg.block i (by have:=hb.size;omega) fun e=>hne e.symm).trans (hb.block i hi)⟩
 have hm':Moved w (O j) v':=by
  rcases hm with e | ⟨q,e,hq⟩
  ·exact .inl e
  ·exact .inr ⟨q,e,Nat.le_trans hb.size hq⟩
 refine ⟨hst.set c v',h.rs.ow.moved hm' (by simp only [World.size_setCell];exact hst.size) h.lt (by simp only [World.size_setCell];exact hv),hm',?_⟩
 exact h.rd.row.keep fun i hi=>⟨hi,by rw [heap_ot (Nat.ne_of_lt hi)];exact hst.block i (Nat.lt_trans hi h.lt) (Nat.ne_of_lt hi) fun e=>by have:=(h.rs.ow.lt j i e).1;omega⟩
end
end Go.Proofs.YtoofbgoeipijcaaGreatDoor
