/-
 A part.
-/
import Derived.Test.YtoofbgoeipijcaaGreatDoorVSPkX
namespace Go.Proofs.YtoofbgoeipijcaaGreatDoor
set_option maxRecDepth 100000
set_option maxHeartbeats 4000000
set_option linter.all false
open Go.RowKit Go.Shelf
attribute [local go_sem] Oper.semAt_some
def InV (w:World) (x:In) (w':World) (v:Value):Prop :=
 ∃ pa ca,v=.agg #[.int .u8 (x.kind:Int),.int .u8 (x.op:Int),.string ⟨x.dst.toArray⟩,.string ⟨x.nm.toArray⟩,.slice pa x.args.length ca,.int .i64 x.pos.1,.int .i64 x.pos.2]/\SlG kAg (fun i=>w.heap.size<=i/\i<w'.heap.size) w' (.slice pa x.args.length ca) x.args
structure SOk (S:PS):Prop where
 ch:S.p.chans.length<=32
 ar:S.p.arrays.length<=32
 fu:S.p.funcs.length<=32
 lb:S.labels.length<=1024
 st:S.sites.length<=32
 mn:S.p.main.length<=1024
 cd:∀ f ∈ S.p.funcs,f.code.length<=1024/\f.params.length<=32
theorem SOk.an {S:PS} (h:SOk S):(anamesP S.p).length<=32:=by unfold anamesP;rw [List.length_map];exact h.ar
def storeI (f:Int × Int) (had:List Bs) (r:List Wd):PE (In × List Wd):=do
 let (s,q) <- knownP f had r
 let (l,q) <- operandsP f 2 q
 pure ({ in0 with kind:=3,nm:=s,args:=l },q)
def readI (f:Int × Int) (had:List Bs) (r:List Wd):PE (In × List Wd):=do
 let (d,q) <- nameP f r
 let (s,q) <- knownP f had q
 pure ({ in0 with kind:=5,dst:=d.1,nm:=s },q)
def writeI (f:Int × Int) (had:List Bs) (r:List Wd):PE (In × List Wd):=do
 let (s,q) <- knownP f had r
 let (l,q) <- operandsP f 1 q
 pure ({ in0 with kind:=6,nm:=s,args:=l },q)
def jumpI (f:Int × Int) (r:List Wd):PE (In × List Wd):=do
 let (s,q) <- nameP f r
 pure ({ in0 with kind:=8,nm:=s.1 },q)
def branchI (f:Int × Int) (r:List Wd):PE (In × List Wd):=do
 let (l,q) <- operandsP f 1 r
 let (s,q) <- nameP f q
 pure ({ in0 with kind:=9,nm:=s.1,args:=l },q)
def retI (f:Int × Int) (inn:Nat) (r:List Wd):PE (In × List Wd):=do
 needM (decide (inn=1)) f 4
 let (l,q) <- operandsP f 1 r
 pure ({ in0 with kind:=12,args:=l },q)
theorem pstore_any {B b:Nat} {O:Nat->Value} {pw:Option Addr} {cw:Nat} {ws:List Wd} {S:PS} {k:Nat} {w:World} (hp:Pm B b O pw cw ws S k w) (hw:WOk ws) (hok:SOk S):Calls Tryz.prog 184 #[.pointer (some ⟨b,0,none⟩)] w (RdP B b O S.p.width pw cw S.inn S.step ws (InV w) w (storeI (fpos ws) (anamesP S.p) (ws.drop k))):=by
 have hd:=hp.rd
 have hk:=hp.le
 have hB:=hp.ge
 have HPM:=hid hp;have HOK:=hid hok
 clear hp hok
 have HD:=hid hd;have HW:=hid hw;have HBB:=hid hB;have HLE:=hid hk;have HSZ:=hid hd.box.lt
 have HBZ:=hid (show B<=w.heap.size from Nat.le_of_lt (Nat.lt_of_le_of_lt hB hd.box.lt))
 clear hd hw hB hk
 have hfd:∀ (s:ByteArray) (x y:Value) (W:World),(Instr.field 128 (.agg #[.string s,x,y]) 0).run Tryz.prog W=.ok (.string s) W:=fun _ _ _ _=>by kernel_rfl
 go_enter Tryz.func184,Tryz.ntmps184
 go_upto_region 1 with fail
 obtain ⟨w1,hw1⟩:∃ W,w.alloc (.cells #[.int .u8 0,.int .u8 0,.string ⟨#[]⟩,.string ⟨#[]⟩,.slice none 0 0,.int .i64 0,.int .i64 0] 41)=W:=⟨_,rfl⟩
 have HN1:=hid (show But (fun i=>i=b) w w1 from by rw [<- hw1];exact (But.refl _ _).al _)
 have HT1:=hid (show BxL 41 w.heap.size [.int .u8 0,.int .u8 0,.string ⟨#[]⟩,.string ⟨#[]⟩,.slice none 0 0,.int .i64 0,.int .i64 0] w1 from by rw [<- hw1];exact BxL.new _ _ _)
 have HD1:=hid (show Rd b O S.p.width pw cw S.inn S.step ws k w1 from by rw [<- hw1];exact HD.al _)
 have HK1:=hid HLE.out
 have HS1:=hid (show w1.heap.size=w.heap.size+1 from by rw [<- hw1,sA])
 rw [hw1]
 clear hw1
 obtain ⟨ps1,cs1,hO⟩:=HPM.rs.an.slc
 have HO1:=hid hO
 have HL1:=hid (show SlG kStr (fun i=>i<w1.heap.size/\i ≠ b) w1 (.slice ps1 (anamesP S.p).length cs1) (anamesP S.p) from by rw [<- hO];exact (HPM.read HD1.out HN1.out HK1.out).rs.an.slb (by have:=HOK.an;omega) (HPM.own 7))
 clear hO
 have c7:=HD1.box.at 7 rfl
 rw [HO1.out] at c7
 go_upto_region 2 with (go_at_call 195;(with_reducible refine (pknown_any HD1.out HK1.out HW.out HBB.out HL1.out (fun i hi=>hi)).mono ?_);rintro e w2 ⟨hb,⟨f1,hm,rfl⟩ | ⟨a2,k2,v,hm,hk,rfl,hv,hd,hn⟩⟩;(focus (exact ⟨rfl,(HN1.out.below HBZ.out (fun i e=>e ▸ HBB.out)).trans hb,.inl ⟨f1,by (unfold storeI;rw [hm];try rfl),rfl⟩⟩));obtain rfl:v=.string ⟨a2.toArray⟩:=hv;have HM2:=hid hm;have HK2:=hid hk;have HD2:=hid hd;have HN2:=hid (HN1.out.trans hn);have HT2:=hid (HT1.out.but hn (by have:=HSZ.out;omega));have HB2:=hid hn;clear hb hm hk hd hn;clear c7;obtain ⟨t0,t1,t2,t3,t4,t5,t6⟩:=HT2.out.p7;have f0:=HT2.out.fr 0;have f1:=HT2.out.fr 1;have f2:=HT2.out.fr 2;have f3:=HT2.out.fr 3;have f4:=HT2.out.fr 4;have f5:=HT2.out.fr 5;have f6:=HT2.out.fr 6)
 generalize hw:World.setCell _ _ _=w3
 have HT3:=hid (show BxL 41 w.heap.size [.int .u8 3,.int .u8 0,.string ⟨#[]⟩,.string ⟨a2.toArray⟩,.slice none 0 0,.int .i64 0,.int .i64 0] w3 from by rw [<- hw];exact (((((((HT2.set 0 _).set 1 _).set 2 _).set 3 _).set 4 _).set 5 _).set 6 _))
 have HD3:=hid (show Rd b O S.p.width pw cw S.inn S.step ws k2 w3 from by rw [<- hw];exact (((((((HD2.other _ HSZ.out).other _ HSZ.out).other _ HSZ.out).other _ HSZ.out).other _ HSZ.out).other _ HSZ.out).other _ HSZ.out))
 have HN3:=hid (show But (fun i=>i=b) w w3 from by rw [<- hw];exact (((((((HN2.setC _ (.inr lrf)).setC _ (.inr lrf)).setC _ (.inr lrf)).setC _ (.inr lrf)).setC _ (.inr lrf)).setC _ (.inr lrf)).setC _ (.inr lrf)))
 have HC3:=hid (show But (fun i=>i=w.heap.size) w2 w3 from by rw [<- hw];exact ((((((((But.refl (fun i=>i=w.heap.size) w2).setC _ (.inl rfl)).setC _ (.inl rfl)).setC _ (.inl rfl)).setC _ (.inl rfl)).setC _ (.inl rfl)).setC _ (.inl rfl)).setC _ (.inl rfl)))
 have HK3:=hid HK2.out
 clear hw t0 t1 t2 t3 t4 t5 t6 f0 f1 f2 f3 f4 f5 f6
 have HOP3:=hid (show Calls Tryz.prog 196 #[.pointer (some ⟨b,0,none⟩),.int .i64 2] w3 _ from poperands_any 2 (by decide) HD3.out HK3.out HW.out HBB.out)
 go_upto_region 3 with (go_at_call 196;(with_reducible refine HOP3.out.mono ?_);rintro e w4 ⟨hb,⟨f1,hm,rfl⟩ | ⟨a4,k4,v,hm,hk,rfl,hv,hd,hn⟩⟩;(focus (exact ⟨rfl,(HN3.out.below HBZ.out (fun i e=>e ▸ HBB.out)).trans hb,.inl ⟨f1,by (unfold storeI;rw [HM2.out];simp only [bind,Except.bind];rw [hm];try rfl),rfl⟩⟩));obtain ⟨hsl,hlen⟩:=hv;obtain ⟨pa,ca,hva⟩:=hsl.slc;subst hva;have HSL4:=hid hsl;have HLN:=hid hlen;obtain ⟨LN,hLN⟩:∃ n,a4.length=n:=⟨_,rfl⟩;rw [hLN] at HSL4 ⊢;have HLE4:=hid hLN;have HM4:=hid hm;have HK4:=hid hk;have HD4:=hid hd;have HN4:=hid (HN3.out.trans hn);have HT4:=hid (HT3.out.but hn (by have:=HSZ.out;omega));have HB4:=hid hn;clear hb hm hk hd hn;clear hsl hlen hLN;obtain ⟨t0,t1,t2,t3,t4,t5,t6⟩:=HT4.out.p7;have f0:=HT4.out.fr 0;have f1:=HT4.out.fr 1;have f2:=HT4.out.fr 2;have f3:=HT4.out.fr 3;have f4:=HT4.out.fr 4;have f5:=HT4.out.fr 5;have f6:=HT4.out.fr 6)
 generalize hw:World.setCell _ _ _=w5
 have HT5:=hid (show BxL 41 w.heap.size [.int .u8 3,.int .u8 0,.string ⟨#[]⟩,.string ⟨a2.toArray⟩,.slice pa LN ca,.int .i64 0,.int .i64 0] w5 from by rw [<- hw];exact (HT4.set 4 _))
 have HD5:=hid (show Rd b O S.p.width pw cw S.inn S.step ws k4 w5 from by rw [<- hw];exact (HD4.other _ HSZ.out))
 have HN5:=hid (show But (fun i=>i=b) w w5 from by rw [<- hw];exact (HN4.setC _ (.inr lrf)))
 have HC5:=hid (show But (fun i=>i=w.heap.size) w4 w5 from by rw [<- hw];exact ((But.refl (fun i=>i=w.heap.size) w4).setC _ (.inl rfl)))
 have HK5:=hid HK4.out
 clear hw t0 t1 t2 t3 t4 t5 t6 f0 f1 f2 f3 f4 f5 f6
 obtain ⟨t0,t1,t2,t3,t4,t5,t6⟩:=HT5.p7
 have f0:=HT5.fr 0
 have f1:=HT5.fr 1
 have f2:=HT5.fr 2
 have f3:=HT5.fr 3
 have f4:=HT5.fr 4
 have f5:=HT5.fr 5
 have f6:=HT5.fr 6
 go_wp2_with fail
 generalize hw:World.setCell _ _ _=w6
 have HT6:=hid (show BxL 41 w.heap.size [.int .u8 3,.int .u8 0,.string ⟨#[]⟩,.string ⟨a2.toArray⟩,.slice pa LN ca,.int .i64 0,.int .i64 0] w6 from by rw [<- hw];exact (((((((HT5.set 0 _).set 1 _).set 2 _).set 3 _).set 4 _).set 5 _).set 6 _))
 have HD6:=hid (show Rd b O S.p.width pw cw S.inn S.step ws k4 w6 from by rw [<- hw];exact (((((((HD5.other _ HSZ.out).other _ HSZ.out).other _ HSZ.out).other _ HSZ.out).other _ HSZ.out).other _ HSZ.out).other _ HSZ.out))
 have HN6:=hid (show But (fun i=>i=b) w w6 from by rw [<- hw];exact (((((((HN5.setC _ (.inr lrf)).setC _ (.inr lrf)).setC _ (.inr lrf)).setC _ (.inr lrf)).setC _ (.inr lrf)).setC _ (.inr lrf)).setC _ (.inr lrf)))
 have HC6:=hid (show But (fun i=>i=w.heap.size) w5 w6 from by rw [<- hw];exact ((((((((But.refl (fun i=>i=w.heap.size) w5).setC _ (.inl rfl)).setC _ (.inl rfl)).setC _ (.inl rfl)).setC _ (.inl rfl)).setC _ (.inl rfl)).setC _ (.inl rfl)).setC _ (.inl rfl)))
 clear hw t0 t1 t2 t3 t4 t5 t6 f0 f1 f2 f3 f4 f5 f6
 obtain ⟨t0,t1,t2,t3,t4,t5,t6⟩:=HT6.p7
 refine bodyPost_ret (v := .agg #[.int .u8 3,.int .u8 0,.string ⟨#[]⟩,.string ⟨a2.toArray⟩,.slice pa LN ca,.int .i64 0,.int .i64 0]) (by simp [results,Tryz.results184,go_sem,t0,t1,t2,t3,t4,t5,t6]) rfl ?_
 exact ⟨HN6.below HBZ.out (fun i e=>e ▸ HBB.out),.inr ⟨{ in0 with kind:=3,nm:=a2,args:=a4 },k4,_,by (unfold storeI;rw [HM2.out];simp only [bind,Except.bind];rw [HM4.out];simp only [bind,Except.bind];try rfl),HK4.out,rfl,⟨pa,ca,by rw [HLE4.out];rfl,by rw [HLE4.out];exact HSL4.keep fun i hi=>by have h:=(((But.refl (fun i=>i=b\/i=w.heap.size) w4).trans (HC5.mono fun i h => .inr h)).trans (HC6.mono fun i h => .inr h));have:=HN3.size;have:=HSZ.out;have hs1:w.heap.size+1<=w3.heap.size:=(by have:=HT3.lt;omega);exact ⟨⟨by omega,Nat.lt_of_lt_of_le hi.2 h.size⟩,h.block i hi.2 (fun e=>by rcases e with e | e <;> omega)⟩⟩,HD6.out,HN6.out⟩⟩
theorem pread_any {B b:Nat} {O:Nat->Value} {pw:Option Addr} {cw:Nat} {ws:List Wd} {S:PS} {k:Nat} {w:World} (hp:Pm B b O pw cw ws S k w) (hw:WOk ws) (hok:SOk S):Calls Tryz.prog 185 #[.pointer (some ⟨b,0,none⟩)] w (RdP B b O S.p.width pw cw S.inn S.step ws (InV w) w (readI (fpos ws) S.p.chans (ws.drop k))):=by
 have hd:=hp.rd
 have hk:=hp.le
 have hB:=hp.ge
 have HPM:=hid hp;have HOK:=hid hok
 clear hp hok
 have HD:=hid hd;have HW:=hid hw;have HBB:=hid hB;have HLE:=hid hk;have HSZ:=hid hd.box.lt
 have HBZ:=hid (show B<=w.heap.size from Nat.le_of_lt (Nat.lt_of_le_of_lt hB hd.box.lt))
 clear hd hw hB hk
 have hfd:∀ (s:ByteArray) (x y:Value) (W:World),(Instr.field 128 (.agg #[.string s,x,y]) 0).run Tryz.prog W=.ok (.string s) W:=fun _ _ _ _=>by kernel_rfl
 go_enter Tryz.func185,Tryz.ntmps185
 go_upto_region 1 with fail
 obtain ⟨w1,hw1⟩:∃ W,w.alloc (.cells #[.int .u8 0,.int .u8 0,.string ⟨#[]⟩,.string ⟨#[]⟩,.slice none 0 0,.int .i64 0,.int .i64 0] 41)=W:=⟨_,rfl⟩
 have HN1:=hid (show But (fun i=>i=b) w w1 from by rw [<- hw1];exact (But.refl _ _).al _)
 have HT1:=hid (show BxL 41 w.heap.size [.int .u8 0,.int .u8 0,.string ⟨#[]⟩,.string ⟨#[]⟩,.slice none 0 0,.int .i64 0,.int .i64 0] w1 from by rw [<- hw1];exact BxL.new _ _ _)
 have HD1:=hid (show Rd b O S.p.width pw cw S.inn S.step ws k w1 from by rw [<- hw1];exact HD.al _)
 have HK1:=hid HLE.out
 have HS1:=hid (show w1.heap.size=w.heap.size+1 from by rw [<- hw1,sA])
 rw [hw1]
 clear hw1
 go_upto_region 2 with (go_at_call 198;(with_reducible refine (pname_any HD1.out HK1.out HW.out HBB.out).mono ?_);rintro e w2 ⟨hb,⟨f1,hm,rfl⟩ | ⟨a2,k2,v,hm,hk,rfl,hv,hd,hn⟩⟩;(focus (exact ⟨rfl,(HN1.out.below HBZ.out (fun i e=>e ▸ HBB.out)).trans hb,.inl ⟨f1,by (unfold readI;rw [hm];try rfl),rfl⟩⟩));obtain rfl:v=.agg #[.string ⟨a2.1.toArray⟩,.int .i64 (a2.2.1:Int),.int .i64 (a2.2.2:Int)]:=hv;have HM2:=hid hm;have HK2:=hid hk;have HD2:=hid hd;have HN2:=hid (HN1.out.trans hn);have HT2:=hid (HT1.out.but hn (by have:=HSZ.out;omega));have HB2:=hid hn;clear hb hm hk hd hn;obtain ⟨t0,t1,t2,t3,t4,t5,t6⟩:=HT2.out.p7;have f0:=HT2.out.fr 0;have f1:=HT2.out.fr 1;have f2:=HT2.out.fr 2;have f3:=HT2.out.fr 3;have f4:=HT2.out.fr 4;have f5:=HT2.out.fr 5;have f6:=HT2.out.fr 6)
 generalize hw:World.setCell _ _ _=w3
 have HT3:=hid (show BxL 41 w.heap.size [.int .u8 5,.int .u8 0,.string ⟨a2.1.toArray⟩,.string ⟨#[]⟩,.slice none 0 0,.int .i64 0,.int .i64 0] w3 from by rw [<- hw];exact (((((((HT2.set 0 _).set 1 _).set 2 _).set 3 _).set 4 _).set 5 _).set 6 _))
 have HD3:=hid (show Rd b O S.p.width pw cw S.inn S.step ws k2 w3 from by rw [<- hw];exact (((((((HD2.other _ HSZ.out).other _ HSZ.out).other _ HSZ.out).other _ HSZ.out).other _ HSZ.out).other _ HSZ.out).other _ HSZ.out))
 have HN3:=hid (show But (fun i=>i=b) w w3 from by rw [<- hw];exact (((((((HN2.setC _ (.inr lrf)).setC _ (.inr lrf)).setC _ (.inr lrf)).setC _ (.inr lrf)).setC _ (.inr lrf)).setC _ (.inr lrf)).setC _ (.inr lrf)))
 have HC3:=hid (show But (fun i=>i=w.heap.size) w2 w3 from by rw [<- hw];exact ((((((((But.refl (fun i=>i=w.heap.size) w2).setC _ (.inl rfl)).setC _ (.inl rfl)).setC _ (.inl rfl)).setC _ (.inl rfl)).setC _ (.inl rfl)).setC _ (.inl rfl)).setC _ (.inl rfl)))
 have HK3:=hid HK2.out
 clear hw t0 t1 t2 t3 t4 t5 t6 f0 f1 f2 f3 f4 f5 f6
 obtain ⟨ps3,cs3,hO⟩:=HPM.rs.ch.slc
 have HO3:=hid hO
 have HL3:=hid (show SlG kStr (fun i=>i<w3.heap.size/\i ≠ b) w3 (.slice ps3 S.p.chans.length cs3) S.p.chans from by rw [<- hO];exact (HPM.read HD3.out HN3.out HK3.out).rs.ch.slb (by have:=HOK.ch;omega) (HPM.own 1))
 clear hO
 have c1:=HD3.box.at 1 rfl
 rw [HO3.out] at c1
 go_upto_region 3 with (go_at_call 195;(with_reducible refine (pknown_any HD3.out HK3.out HW.out HBB.out HL3.out (fun i hi=>hi)).mono ?_);rintro e w4 ⟨hb,⟨f1,hm,rfl⟩ | ⟨a4,k4,v,hm,hk,rfl,hv,hd,hn⟩⟩;(focus (exact ⟨rfl,(HN3.out.below HBZ.out (fun i e=>e ▸ HBB.out)).trans hb,.inl ⟨f1,by (unfold readI;rw [HM2.out];simp only [bind,Except.bind];rw [hm];try rfl),rfl⟩⟩));obtain rfl:v=.string ⟨a4.toArray⟩:=hv;have HM4:=hid hm;have HK4:=hid hk;have HD4:=hid hd;have HN4:=hid (HN3.out.trans hn);have HT4:=hid (HT3.out.but hn (by have:=HSZ.out;omega));have HB4:=hid hn;clear hb hm hk hd hn;clear c1;obtain ⟨t0,t1,t2,t3,t4,t5,t6⟩:=HT4.out.p7;have f0:=HT4.out.fr 0;have f1:=HT4.out.fr 1;have f2:=HT4.out.fr 2;have f3:=HT4.out.fr 3;have f4:=HT4.out.fr 4;have f5:=HT4.out.fr 5;have f6:=HT4.out.fr 6)
 generalize hw:World.setCell _ _ _=w5
 have HT5:=hid (show BxL 41 w.heap.size [.int .u8 5,.int .u8 0,.string ⟨a2.1.toArray⟩,.string ⟨a4.toArray⟩,.slice none 0 0,.int .i64 0,.int .i64 0] w5 from by rw [<- hw];exact (HT4.set 3 _))
 have HD5:=hid (show Rd b O S.p.width pw cw S.inn S.step ws k4 w5 from by rw [<- hw];exact (HD4.other _ HSZ.out))
 have HN5:=hid (show But (fun i=>i=b) w w5 from by rw [<- hw];exact (HN4.setC _ (.inr lrf)))
 have HC5:=hid (show But (fun i=>i=w.heap.size) w4 w5 from by rw [<- hw];exact ((But.refl (fun i=>i=w.heap.size) w4).setC _ (.inl rfl)))
 have HK5:=hid HK4.out
 clear hw t0 t1 t2 t3 t4 t5 t6 f0 f1 f2 f3 f4 f5 f6
 obtain ⟨t0,t1,t2,t3,t4,t5,t6⟩:=HT5.p7
 have f0:=HT5.fr 0
 have f1:=HT5.fr 1
 have f2:=HT5.fr 2
 have f3:=HT5.fr 3
 have f4:=HT5.fr 4
 have f5:=HT5.fr 5
 have f6:=HT5.fr 6
 go_wp2_with fail
 generalize hw:World.setCell _ _ _=w6
 have HT6:=hid (show BxL 41 w.heap.size [.int .u8 5,.int .u8 0,.string ⟨a2.1.toArray⟩,.string ⟨a4.toArray⟩,.slice none 0 0,.int .i64 0,.int .i64 0] w6 from by rw [<- hw];exact (((((((HT5.set 0 _).set 1 _).set 2 _).set 3 _).set 4 _).set 5 _).set 6 _))
 have HD6:=hid (show Rd b O S.p.width pw cw S.inn S.step ws k4 w6 from by rw [<- hw];exact (((((((HD5.other _ HSZ.out).other _ HSZ.out).other _ HSZ.out).other _ HSZ.out).other _ HSZ.out).other _ HSZ.out).other _ HSZ.out))
 have HN6:=hid (show But (fun i=>i=b) w w6 from by rw [<- hw];exact (((((((HN5.setC _ (.inr lrf)).setC _ (.inr lrf)).setC _ (.inr lrf)).setC _ (.inr lrf)).setC _ (.inr lrf)).setC _ (.inr lrf)).setC _ (.inr lrf)))
 have HC6:=hid (show But (fun i=>i=w.heap.size) w5 w6 from by rw [<- hw];exact ((((((((But.refl (fun i=>i=w.heap.size) w5).setC _ (.inl rfl)).setC _ (.inl rfl)).setC _ (.inl rfl)).setC _ (.inl rfl)).setC _ (.inl rfl)).setC _ (.inl rfl)).setC _ (.inl rfl)))
 clear hw t0 t1 t2 t3 t4 t5 t6 f0 f1 f2 f3 f4 f5 f6
 obtain ⟨t0,t1,t2,t3,t4,t5,t6⟩:=HT6.p7
 refine bodyPost_ret (v := .agg #[.int .u8 5,.int .u8 0,.string ⟨a2.1.toArray⟩,.string ⟨a4.toArray⟩,.slice none 0 0,.int .i64 0,.int .i64 0]) (by simp [results,Tryz.results185,go_sem,t0,t1,t2,t3,t4,t5,t6]) rfl ?_
 exact ⟨HN6.below HBZ.out (fun i e=>e ▸ HBB.out),.inr ⟨{ in0 with kind:=5,dst:=a2.1,nm:=a4 },k4,_,by (unfold readI;rw [HM2.out];simp only [bind,Except.bind];rw [HM4.out];simp only [bind,Except.bind];try rfl),HK4.out,rfl,⟨none,0,rfl,SlG.nil⟩,HD6.out,HN6.out⟩⟩
theorem pwrite_any {B b:Nat} {O:Nat->Value} {pw:Option Addr} {cw:Nat} {ws:List Wd} {S:PS} {k:Nat} {w:World} (hp:Pm B b O pw cw ws S k w) (hw:WOk ws) (hok:SOk S):Calls Tryz.prog 186 #[.pointer (some ⟨b,0,none⟩)] w (RdP B b O S.p.width pw cw S.inn S.step ws (InV w) w (writeI (fpos ws) S.p.chans (ws.drop k))):=by
 have hd:=hp.rd
 have hk:=hp.le
 have hB:=hp.ge
 have HPM:=hid hp;have HOK:=hid hok
 clear hp hok
 have HD:=hid hd;have HW:=hid hw;have HBB:=hid hB;have HLE:=hid hk;have HSZ:=hid hd.box.lt
 have HBZ:=hid (show B<=w.heap.size from Nat.le_of_lt (Nat.lt_of_le_of_lt hB hd.box.lt))
 clear hd hw hB hk
 have hfd:∀ (s:ByteArray) (x y:Value) (W:World),(Instr.field 128 (.agg #[.string s,x,y]) 0).run Tryz.prog W=.ok (.string s) W:=fun _ _ _ _=>by kernel_rfl
 go_enter Tryz.func186,Tryz.ntmps186
 go_upto_region 1 with fail
 obtain ⟨w1,hw1⟩:∃ W,w.alloc (.cells #[.int .u8 0,.int .u8 0,.string ⟨#[]⟩,.string ⟨#[]⟩,.slice none 0 0,.int .i64 0,.int .i64 0] 41)=W:=⟨_,rfl⟩
 have HN1:=hid (show But (fun i=>i=b) w w1 from by rw [<- hw1];exact (But.refl _ _).al _)
 have HT1:=hid (show BxL 41 w.heap.size [.int .u8 0,.int .u8 0,.string ⟨#[]⟩,.string ⟨#[]⟩,.slice none 0 0,.int .i64 0,.int .i64 0] w1 from by rw [<- hw1];exact BxL.new _ _ _)
 have HD1:=hid (show Rd b O S.p.width pw cw S.inn S.step ws k w1 from by rw [<- hw1];exact HD.al _)
 have HK1:=hid HLE.out
 have HS1:=hid (show w1.heap.size=w.heap.size+1 from by rw [<- hw1,sA])
 rw [hw1]
 clear hw1
 obtain ⟨ps1,cs1,hO⟩:=HPM.rs.ch.slc
 have HO1:=hid hO
 have HL1:=hid (show SlG kStr (fun i=>i<w1.heap.size/\i ≠ b) w1 (.slice ps1 S.p.chans.length cs1) S.p.chans from by rw [<- hO];exact (HPM.read HD1.out HN1.out HK1.out).rs.ch.slb (by have:=HOK.ch;omega) (HPM.own 1))
 clear hO
 have c1:=HD1.box.at 1 rfl
 rw [HO1.out] at c1
 go_upto_region 2 with (go_at_call 195;(with_reducible refine (pknown_any HD1.out HK1.out HW.out HBB.out HL1.out (fun i hi=>hi)).mono ?_);rintro e w2 ⟨hb,⟨f1,hm,rfl⟩ | ⟨a2,k2,v,hm,hk,rfl,hv,hd,hn⟩⟩;(focus (exact ⟨rfl,(HN1.out.below HBZ.out (fun i e=>e ▸ HBB.out)).trans hb,.inl ⟨f1,by (unfold writeI;rw [hm];try rfl),rfl⟩⟩));obtain rfl:v=.string ⟨a2.toArray⟩:=hv;have HM2:=hid hm;have HK2:=hid hk;have HD2:=hid hd;have HN2:=hid (HN1.out.trans hn);have HT2:=hid (HT1.out.but hn (by have:=HSZ.out;omega));have HB2:=hid hn;clear hb hm hk hd hn;clear c1;obtain ⟨t0,t1,t2,t3,t4,t5,t6⟩:=HT2.out.p7;have f0:=HT2.out.fr 0;have f1:=HT2.out.fr 1;have f2:=HT2.out.fr 2;have f3:=HT2.out.fr 3;have f4:=HT2.out.fr 4;have f5:=HT2.out.fr 5;have f6:=HT2.out.fr 6)
 generalize hw:World.setCell _ _ _=w3
 have HT3:=hid (show BxL 41 w.heap.size [.int .u8 6,.int .u8 0,.string ⟨#[]⟩,.string ⟨a2.toArray⟩,.slice none 0 0,.int .i64 0,.int .i64 0] w3 from by rw [<- hw];exact (((((((HT2.set 0 _).set 1 _).set 2 _).set 3 _).set 4 _).set 5 _).set 6 _))
 have HD3:=hid (show Rd b O S.p.width pw cw S.inn S.step ws k2 w3 from by rw [<- hw];exact (((((((HD2.other _ HSZ.out).other _ HSZ.out).other _ HSZ.out).other _ HSZ.out).other _ HSZ.out).other _ HSZ.out).other _ HSZ.out))
 have HN3:=hid (show But (fun i=>i=b) w w3 from by rw [<- hw];exact (((((((HN2.setC _ (.inr lrf)).setC _ (.inr lrf)).setC _ (.inr lrf)).setC _ (.inr lrf)).setC _ (.inr lrf)).setC _ (.inr lrf)).setC _ (.inr lrf)))
 have HC3:=hid (show But (fun i=>i=w.heap.size) w2 w3 from by rw [<- hw];exact ((((((((But.refl (fun i=>i=w.heap.size) w2).setC _ (.inl rfl)).setC _ (.inl rfl)).setC _ (.inl rfl)).setC _ (.inl rfl)).setC _ (.inl rfl)).setC _ (.inl rfl)).setC _ (.inl rfl)))
 have HK3:=hid HK2.out
 clear hw t0 t1 t2 t3 t4 t5 t6 f0 f1 f2 f3 f4 f5 f6
 have HOP3:=hid (show Calls Tryz.prog 196 #[.pointer (some ⟨b,0,none⟩),.int .i64 1] w3 _ from poperands_any 1 (by decide) HD3.out HK3.out HW.out HBB.out)
 go_upto_region 3 with (go_at_call 196;(with_reducible refine HOP3.out.mono ?_);rintro e w4 ⟨hb,⟨f1,hm,rfl⟩ | ⟨a4,k4,v,hm,hk,rfl,hv,hd,hn⟩⟩;(focus (exact ⟨rfl,(HN3.out.below HBZ.out (fun i e=>e ▸ HBB.out)).trans hb,.inl ⟨f1,by (unfold writeI;rw [HM2.out];simp only [bind,Except.bind];rw [hm];try rfl),rfl⟩⟩));obtain ⟨hsl,hlen⟩:=hv;obtain ⟨pa,ca,hva⟩:=hsl.slc;subst hva;have HSL4:=hid hsl;have HLN:=hid hlen;obtain ⟨LN,hLN⟩:∃ n,a4.length=n:=⟨_,rfl⟩;rw [hLN] at HSL4 ⊢;have HLE4:=hid hLN;have HM4:=hid hm;have HK4:=hid hk;have HD4:=hid hd;have HN4:=hid (HN3.out.trans hn);have HT4:=hid (HT3.out.but hn (by have:=HSZ.out;omega));have HB4:=hid hn;clear hb hm hk hd hn;clear hsl hlen hLN;obtain ⟨t0,t1,t2,t3,t4,t5,t6⟩:=HT4.out.p7;have f0:=HT4.out.fr 0;have f1:=HT4.out.fr 1;have f2:=HT4.out.fr 2;have f3:=HT4.out.fr 3;have f4:=HT4.out.fr 4;have f5:=HT4.out.fr 5;have f6:=HT4.out.fr 6)
 generalize hw:World.setCell _ _ _=w5
 have HT5:=hid (show BxL 41 w.heap.size [.int .u8 6,.int .u8 0,.string ⟨#[]⟩,.string ⟨a2.toArray⟩,.slice pa LN ca,.int .i64 0,.int .i64 0] w5 from by rw [<- hw];exact (HT4.set 4 _))
 have HD5:=hid (show Rd b O S.p.width pw cw S.inn S.step ws k4 w5 from by rw [<- hw];exact (HD4.other _ HSZ.out))
 have HN5:=hid (show But (fun i=>i=b) w w5 from by rw [<- hw];exact (HN4.setC _ (.inr lrf)))
 have HC5:=hid (show But (fun i=>i=w.heap.size) w4 w5 from by rw [<- hw];exact ((But.refl (fun i=>i=w.heap.size) w4).setC _ (.inl rfl)))
 have HK5:=hid HK4.out
 clear hw t0 t1 t2 t3 t4 t5 t6 f0 f1 f2 f3 f4 f5 f6
 obtain ⟨t0,t1,t2,t3,t4,t5,t6⟩:=HT5.p7
 have f0:=HT5.fr 0
 have f1:=HT5.fr 1
 have f2:=HT5.fr 2
 have f3:=HT5.fr 3
 have f4:=HT5.fr 4
 have f5:=HT5.fr 5
 have f6:=HT5.fr 6
 go_wp2_with fail
 generalize hw:World.setCell _ _ _=w6
 have HT6:=hid (show BxL 41 w.heap.size [.int .u8 6,.int .u8 0,.string ⟨#[]⟩,.string ⟨a2.toArray⟩,.slice pa LN ca,.int .i64 0,.int .i64 0] w6 from by rw [<- hw];exact (((((((HT5.set 0 _).set 1 _).set 2 _).set 3 _).set 4 _).set 5 _).set 6 _))
 have HD6:=hid (show Rd b O S.p.width pw cw S.inn S.step ws k4 w6 from by rw [<- hw];exact (((((((HD5.other _ HSZ.out).other _ HSZ.out).other _ HSZ.out).other _ HSZ.out).other _ HSZ.out).other _ HSZ.out).other _ HSZ.out))
 have HN6:=hid (show But (fun i=>i=b) w w6 from by rw [<- hw];exact (((((((HN5.setC _ (.inr lrf)).setC _ (.inr lrf)).setC _ (.inr lrf)).setC _ (.inr lrf)).setC _ (.inr lrf)).setC _ (.inr lrf)).setC _ (.inr lrf)))
 have HC6:=hid (show But (fun i=>i=w.heap.size) w5 w6 from by rw [<- hw];exact ((((((((But.refl (fun i=>i=w.heap.size) w5).setC _ (.inl rfl)).setC _ (.inl rfl)).setC _ (.inl rfl)).setC _ (.inl rfl)).setC _ (.inl rfl)).setC _ (.inl rfl)).setC _ (.inl rfl)))
 clear hw t0 t1 t2 t3 t4 t5 t6 f0 f1 f2 f3 f4 f5 f6
 obtain ⟨t0,t1,t2,t3,t4,t5,t6⟩:=HT6.p7
 refine bodyPost_ret (v := .agg #[.int .u8 6,.int .u8 0,.string ⟨#[]⟩,.string ⟨a2.toArray⟩,.slice pa LN ca,.int .i64 0,.int .i64 0]) (by simp [results,Tryz.results186,go_sem,t0,t1,t2,t3,t4,t5,t6]) rfl ?_
 exact ⟨HN6.below HBZ.out (fun i e=>e ▸ HBB.out),.inr ⟨{ in0 with kind:=6,nm:=a2,args:=a4 },k4,_,by (unfold writeI;rw [HM2.out];simp only [bind,Except.bind];rw [HM4.out];simp only [bind,Except.bind];try rfl),HK4.out,rfl,⟨pa,ca,by rw [HLE4.out];rfl,by rw [HLE4.out];exact HSL4.keep fun i hi=>by have h:=(((But.refl (fun i=>i=b\/i=w.heap.size) w4).trans (HC5.mono fun i h => .inr h)).trans (HC6.mono fun i h => .inr h));have:=HN3.size;have:=HSZ.out;have hs1:w.heap.size+1<=w3.heap.size:=(by have:=HT3.lt;omega);exact ⟨⟨by omega,Nat.lt_of_lt_of_le hi.2 h.size⟩,h.block i hi.2 (fun e=>by rcases e with e | e <;> omega)⟩⟩,HD6.out,HN6.out⟩⟩
theorem pjump_any {B b:Nat} {O:Nat->Value} {pw:Option Addr} {cw:Nat} {ws:List Wd} {S:PS} {k:Nat} {w:World} (hp:Pm B b O pw cw ws S k w) (hw:WOk ws) (hok:SOk S):Calls Tryz.prog 187 #[.pointer (some ⟨b,0,none⟩)] w (RdP B b O S.p.width pw cw S.inn S.step ws (InV w) w (jumpI (fpos ws) (ws.drop k))):=by
 have hd:=hp.rd
 have hk:=hp.le
 have hB:=hp.ge
 have HPM:=hid hp;have HOK:=hid hok
 clear hp hok
 have HD:=hid hd;have HW:=hid hw;have HBB:=hid hB;have HLE:=hid hk;have HSZ:=hid hd.box.lt
 have HBZ:=hid (show B<=w.heap.size from Nat.le_of_lt (Nat.lt_of_le_of_lt hB hd.box.lt))
 clear hd hw hB hk
 have hfd:∀ (s:ByteArray) (x y:Value) (W:World),(Instr.field 128 (.agg #[.string s,x,y]) 0).run Tryz.prog W=.ok (.string s) W:=fun _ _ _ _=>by kernel_rfl
 go_enter Tryz.func187,Tryz.ntmps187
 go_upto_region 1 with fail
 obtain ⟨w1,hw1⟩:∃ W,w.alloc (.cells #[.int .u8 0,.int .u8 0,.string ⟨#[]⟩,.string ⟨#[]⟩,.slice none 0 0,.int .i64 0,.int .i64 0] 41)=W:=⟨_,rfl⟩
 have HN1:=hid (show But (fun i=>i=b) w w1 from by rw [<- hw1];exact (But.refl _ _).al _)
 have HT1:=hid (show BxL 41 w.heap.size [.int .u8 0,.int .u8 0,.string ⟨#[]⟩,.string ⟨#[]⟩,.slice none 0 0,.int .i64 0,.int .i64 0] w1 from by rw [<- hw1];exact BxL.new _ _ _)
 have HD1:=hid (show Rd b O S.p.width pw cw S.inn S.step ws k w1 from by rw [<- hw1];exact HD.al _)
 have HK1:=hid HLE.out
 have HS1:=hid (show w1.heap.size=w.heap.size+1 from by rw [<- hw1,sA])
 rw [hw1]
 clear hw1
 go_wp2_with (go_at_call 198;(with_reducible refine (pname_any HD1.out HK1.out HW.out HBB.out).mono ?_);rintro e w2 ⟨hb,⟨f1,hm,rfl⟩ | ⟨a2,k2,v,hm,hk,rfl,hv,hd,hn⟩⟩;(focus (exact ⟨rfl,(HN1.out.below HBZ.out (fun i e=>e ▸ HBB.out)).trans hb,.inl ⟨f1,by (unfold jumpI;rw [hm];try rfl),rfl⟩⟩));obtain rfl:v=.agg #[.string ⟨a2.1.toArray⟩,.int .i64 (a2.2.1:Int),.int .i64 (a2.2.2:Int)]:=hv;have HM2:=hid hm;have HK2:=hid hk;have HD2:=hid hd;have HN2:=hid (HN1.out.trans hn);have HT2:=hid (HT1.out.but hn (by have:=HSZ.out;omega));have HB2:=hid hn;clear hb hm hk hd hn;obtain ⟨t0,t1,t2,t3,t4,t5,t6⟩:=HT2.out.p7;have f0:=HT2.out.fr 0;have f1:=HT2.out.fr 1;have f2:=HT2.out.fr 2;have f3:=HT2.out.fr 3;have f4:=HT2.out.fr 4;have f5:=HT2.out.fr 5;have f6:=HT2.out.fr 6)
 generalize hw:World.setCell _ _ _=w3
 have HT3:=hid (show BxL 41 w.heap.size [.int .u8 8,.int .u8 0,.string ⟨#[]⟩,.string ⟨a2.1.toArray⟩,.slice none 0 0,.int .i64 0,.int .i64 0] w3 from by rw [<- hw];exact (((((((HT2.set 0 _).set 1 _).set 2 _).set 3 _).set 4 _).set 5 _).set 6 _))
 have HD3:=hid (show Rd b O S.p.width pw cw S.inn S.step ws k2 w3 from by rw [<- hw];exact (((((((HD2.other _ HSZ.out).other _ HSZ.out).other _ HSZ.out).other _ HSZ.out).other _ HSZ.out).other _ HSZ.out).other _ HSZ.out))
 have HN3:=hid (show But (fun i=>i=b) w w3 from by rw [<- hw];exact (((((((HN2.setC _ (.inr lrf)).setC _ (.inr lrf)).setC _ (.inr lrf)).setC _ (.inr lrf)).setC _ (.inr lrf)).setC _ (.inr lrf)).setC _ (.inr lrf)))
 have HC3:=hid (show But (fun i=>i=w.heap.size) w2 w3 from by rw [<- hw];exact ((((((((But.refl (fun i=>i=w.heap.size) w2).setC _ (.inl rfl)).setC _ (.inl rfl)).setC _ (.inl rfl)).setC _ (.inl rfl)).setC _ (.inl rfl)).setC _ (.inl rfl)).setC _ (.inl rfl)))
 have HK3:=hid HK2.out
 clear hw t0 t1 t2 t3 t4 t5 t6 f0 f1 f2 f3 f4 f5 f6
 obtain ⟨t0,t1,t2,t3,t4,t5,t6⟩:=HT3.p7
 refine bodyPost_ret (v := .agg #[.int .u8 8,.int .u8 0,.string ⟨#[]⟩,.string ⟨a2.1.toArray⟩,.slice none 0 0,.int .i64 0,.int .i64 0]) (by simp [results,Tryz.results187,go_sem,t0,t1,t2,t3,t4,t5,t6]) rfl ?_
 exact ⟨HN3.below HBZ.out (fun i e=>e ▸ HBB.out),.inr ⟨{ in0 with kind:=8,nm:=a2.1 },k2,_,by (unfold jumpI;rw [HM2.out];simp only [bind,Except.bind];try rfl),HK2.out,rfl,⟨none,0,rfl,SlG.nil⟩,HD3.out,HN3.out⟩⟩
theorem pbranch_any {B b:Nat} {O:Nat->Value} {pw:Option Addr} {cw:Nat} {ws:List Wd} {S:PS} {k:Nat} {w:World} (hp:Pm B b O pw cw ws S k w) (hw:WOk ws) (hok:SOk S):Calls Tryz.prog 188 #[.pointer (some ⟨b,0,none⟩)] w (RdP B b O S.p.width pw cw S.inn S.step ws (InV w) w (branchI (fpos ws) (ws.drop k))):=by
 have hd:=hp.rd
 have hk:=hp.le
 have hB:=hp.ge
 have HPM:=hid hp;have HOK:=hid hok
 clear hp hok
 have HD:=hid hd;have HW:=hid hw;have HBB:=hid hB;have HLE:=hid hk;have HSZ:=hid hd.box.lt
 have HBZ:=hid (show B<=w.heap.size from Nat.le_of_lt (Nat.lt_of_le_of_lt hB hd.box.lt))
 clear hd hw hB hk
 have hfd:∀ (s:ByteArray) (x y:Value) (W:World),(Instr.field 128 (.agg #[.string s,x,y]) 0).run Tryz.prog W=.ok (.string s) W:=fun _ _ _ _=>by kernel_rfl
 go_enter Tryz.func188,Tryz.ntmps188
 go_upto_region 1 with fail
 obtain ⟨w1,hw1⟩:∃ W,w.alloc (.cells #[.int .u8 0,.int .u8 0,.string ⟨#[]⟩,.string ⟨#[]⟩,.slice none 0 0,.int .i64 0,.int .i64 0] 41)=W:=⟨_,rfl⟩
 have HN1:=hid (show But (fun i=>i=b) w w1 from by rw [<- hw1];exact (But.refl _ _).al _)
 have HT1:=hid (show BxL 41 w.heap.size [.int .u8 0,.int .u8 0,.string ⟨#[]⟩,.string ⟨#[]⟩,.slice none 0 0,.int .i64 0,.int .i64 0] w1 from by rw [<- hw1];exact BxL.new _ _ _)
 have HD1:=hid (show Rd b O S.p.width pw cw S.inn S.step ws k w1 from by rw [<- hw1];exact HD.al _)
 have HK1:=hid HLE.out
 have HS1:=hid (show w1.heap.size=w.heap.size+1 from by rw [<- hw1,sA])
 rw [hw1]
 clear hw1
 have HOP1:=hid (show Calls Tryz.prog 196 #[.pointer (some ⟨b,0,none⟩),.int .i64 1] w1 _ from poperands_any 1 (by decide) HD1.out HK1.out HW.out HBB.out)
 go_upto_region 2 with (go_at_call 196;(with_reducible refine HOP1.out.mono ?_);rintro e w2 ⟨hb,⟨f1,hm,rfl⟩ | ⟨a2,k2,v,hm,hk,rfl,hv,hd,hn⟩⟩;(focus (exact ⟨rfl,(HN1.out.below HBZ.out (fun i e=>e ▸ HBB.out)).trans hb,.inl ⟨f1,by (unfold branchI;rw [hm];try rfl),rfl⟩⟩));obtain ⟨hsl,hlen⟩:=hv;obtain ⟨pa,ca,hva⟩:=hsl.slc;subst hva;have HSL2:=hid hsl;have HLN:=hid hlen;obtain ⟨LN,hLN⟩:∃ n,a2.length=n:=⟨_,rfl⟩;rw [hLN] at HSL2 ⊢;have HLE2:=hid hLN;have HM2:=hid hm;have HK2:=hid hk;have HD2:=hid hd;have HN2:=hid (HN1.out.trans hn);have HT2:=hid (HT1.out.but hn (by have:=HSZ.out;omega));have HB2:=hid hn;clear hb hm hk hd hn;clear hsl hlen hLN;obtain ⟨t0,t1,t2,t3,t4,t5,t6⟩:=HT2.out.p7;have f0:=HT2.out.fr 0;have f1:=HT2.out.fr 1;have f2:=HT2.out.fr 2;have f3:=HT2.out.fr 3;have f4:=HT2.out.fr 4;have f5:=HT2.out.fr 5;have f6:=HT2.out.fr 6)
 generalize hw:World.setCell _ _ _=w3
 have HT3:=hid (show BxL 41 w.heap.size [.int .u8 9,.int .u8 0,.string ⟨#[]⟩,.string ⟨#[]⟩,.slice pa LN ca,.int .i64 0,.int .i64 0] w3 from by rw [<- hw];exact (((((((HT2.set 0 _).set 1 _).set 2 _).set 3 _).set 4 _).set 5 _).set 6 _))
 have HD3:=hid (show Rd b O S.p.width pw cw S.inn S.step ws k2 w3 from by rw [<- hw];exact (((((((HD2.other _ HSZ.out).other _ HSZ.out).other _ HSZ.out).other _ HSZ.out).other _ HSZ.out).other _ HSZ.out).other _ HSZ.out))
 have HN3:=hid (show But (fun i=>i=b) w w3 from by rw [<- hw];exact (((((((HN2.setC _ (.inr lrf)).setC _ (.inr lrf)).setC _ (.inr lrf)).setC _ (.inr lrf)).setC _ (.inr lrf)).setC _ (.inr lrf)).setC _ (.inr lrf)))
 have HC3:=hid (show But (fun i=>i=w.heap.size) w2 w3 from by rw [<- hw];exact ((((((((But.refl (fun i=>i=w.heap.size) w2).setC _ (.inl rfl)).setC _ (.inl rfl)).setC _ (.inl rfl)).setC _ (.inl rfl)).setC _ (.inl rfl)).setC _ (.inl rfl)).setC _ (.inl rfl)))
 have HK3:=hid HK2.out
 clear hw t0 t1 t2 t3 t4 t5 t6 f0 f1 f2 f3 f4 f5 f6
 go_upto_region 3 with (go_at_call 198;(with_reducible refine (pname_any HD3.out HK3.out HW.out HBB.out).mono ?_);rintro e w4 ⟨hb,⟨f1,hm,rfl⟩ | ⟨a4,k4,v,hm,hk,rfl,hv,hd,hn⟩⟩;(focus (exact ⟨rfl,(HN3.out.below HBZ.out (fun i e=>e ▸ HBB.out)).trans hb,.inl ⟨f1,by (unfold branchI;rw [HM2.out];simp only [bind,Except.bind];rw [hm];try rfl),rfl⟩⟩));obtain rfl:v=.agg #[.string ⟨a4.1.toArray⟩,.int .i64 (a4.2.1:Int),.int .i64 (a4.2.2:Int)]:=hv;have HM4:=hid hm;have HK4:=hid hk;have HD4:=hid hd;have HN4:=hid (HN3.out.trans hn);have HT4:=hid (HT3.out.but hn (by have:=HSZ.out;omega));have HB4:=hid hn;clear hb hm hk hd hn;obtain ⟨t0,t1,t2,t3,t4,t5,t6⟩:=HT4.out.p7;have f0:=HT4.out.fr 0;have f1:=HT4.out.fr 1;have f2:=HT4.out.fr 2;have f3:=HT4.out.fr 3;have f4:=HT4.out.fr 4;have f5:=HT4.out.fr 5;have f6:=HT4.out.fr 6)
 generalize hw:World.setCell _ _ _=w5
 have HT5:=hid (show BxL 41 w.heap.size [.int .u8 9,.int .u8 0,.string ⟨#[]⟩,.string ⟨a4.1.toArray⟩,.slice pa LN ca,.int .i64 0,.int .i64 0] w5 from by rw [<- hw];exact (HT4.set 3 _))
 have HD5:=hid (show Rd b O S.p.width pw cw S.inn S.step ws k4 w5 from by rw [<- hw];exact (HD4.other _ HSZ.out))
 have HN5:=hid (show But (fun i=>i=b) w w5 from by rw [<- hw];exact (HN4.setC _ (.inr lrf)))
 have HC5:=hid (show But (fun i=>i=w.heap.size) w4 w5 from by rw [<- hw];exact ((But.refl (fun i=>i=w.heap.size) w4).setC _ (.inl rfl)))
 have HK5:=hid HK4.out
 clear hw t0 t1 t2 t3 t4 t5 t6 f0 f1 f2 f3 f4 f5 f6
 obtain ⟨t0,t1,t2,t3,t4,t5,t6⟩:=HT5.p7
 have f0:=HT5.fr 0
 have f1:=HT5.fr 1
 have f2:=HT5.fr 2
 have f3:=HT5.fr 3
 have f4:=HT5.fr 4
 have f5:=HT5.fr 5
 have f6:=HT5.fr 6
 go_wp2_with fail
 generalize hw:World.setCell _ _ _=w6
 have HT6:=hid (show BxL 41 w.heap.size [.int .u8 9,.int .u8 0,.string ⟨#[]⟩,.string ⟨a4.1.toArray⟩,.slice pa LN ca,.int .i64 0,.int .i64 0] w6 from by rw [<- hw];exact (((((((HT5.set 0 _).set 1 _).set 2 _).set 3 _).set 4 _).set 5 _).set 6 _))
 have HD6:=hid (show Rd b O S.p.width pw cw S.inn S.step ws k4 w6 from by rw [<- hw];exact (((((((HD5.other _ HSZ.out).other _ HSZ.out).other _ HSZ.out).other _ HSZ.out).other _ HSZ.out).other _ HSZ.out).other _ HSZ.out))
 have HN6:=hid (show But (fun i=>i=b) w w6 from by rw [<- hw];exact (((((((HN5.setC _ (.inr lrf)).setC _ (.inr lrf)).setC _ (.inr lrf)).setC _ (.inr lrf)).setC _ (.inr lrf)).setC _ (.inr lrf)).setC _ (.inr lrf)))
 have HC6:=hid (show But (fun i=>i=w.heap.size) w5 w6 from by rw [<- hw];exact ((((((((But.refl (fun i=>i=w.heap.size) w5).setC _ (.inl rfl)).setC _ (.inl rfl)).setC _ (.inl rfl)).setC _ (.inl rfl)).setC _ (.inl rfl)).setC _ (.inl rfl)).setC _ (.inl rfl)))
 clear hw t0 t1 t2 t3 t4 t5 t6 f0 f1 f2 f3 f4 f5 f6
 obtain ⟨t0,t1,t2,t3,t4,t5,t6⟩:=HT6.p7
 refine bodyPost_ret (v := .agg #[.int .u8 9,.int .u8 0,.string ⟨#[]⟩,.string ⟨a4.1.toArray⟩,.slice pa LN ca,.int .i64 0,.int .i64 0]) (by simp [results,Tryz.results188,go_sem,t0,t1,t2,t3,t4,t5,t6]) rfl ?_
 exact ⟨HN6.below HBZ.out (fun i e=>e ▸ HBB.out),.inr ⟨{ in0 with kind:=9,nm:=a4.1,args:=a2 },k4,_,by (unfold branchI;rw [HM2.out];simp only [bind,Except.bind];rw [HM4.out];simp only [bind,Except.bind];try rfl),HK4.out,rfl,⟨pa,ca,by rw [HLE2.out];rfl,by rw [HLE2.out];exact HSL2.keep fun i hi=>by have h:=(((((But.refl (fun i=>i=b\/i=w.heap.size) w2).trans (HC3.mono fun i h => .inr h)).trans (HB4.mono fun i h => .inl h)).trans (HC5.mono fun i h => .inr h)).trans (HC6.mono fun i h => .inr h));have:=HN1.size;have:=HSZ.out;have hs1:w.heap.size+1<=w1.heap.size:=(by have:=HS1.out;omega);exact ⟨⟨by omega,Nat.lt_of_lt_of_le hi.2 h.size⟩,h.block i hi.2 (fun e=>by rcases e with e | e <;> omega)⟩⟩,HD6.out,HN6.out⟩⟩
theorem pret_any {B b:Nat} {O:Nat->Value} {pw:Option Addr} {cw:Nat} {ws:List Wd} {S:PS} {k:Nat} {w:World} (hp:Pm B b O pw cw ws S k w) (hw:WOk ws) (hok:SOk S):Calls Tryz.prog 190 #[.pointer (some ⟨b,0,none⟩)] w (RdP B b O S.p.width pw cw S.inn S.step ws (InV w) w (retI (fpos ws) S.inn (ws.drop k))):=by
 have hd:=hp.rd
 have hk:=hp.le
 have hB:=hp.ge
 have HPM:=hid hp;have HOK:=hid hok
 clear hp hok
 have HD:=hid hd;have HW:=hid hw;have HBB:=hid hB;have HLE:=hid hk;have HSZ:=hid hd.box.lt
 have HBZ:=hid (show B<=w.heap.size from Nat.le_of_lt (Nat.lt_of_le_of_lt hB hd.box.lt))
 clear hd hw hB hk
 have hfd:∀ (s:ByteArray) (x y:Value) (W:World),(Instr.field 128 (.agg #[.string s,x,y]) 0).run Tryz.prog W=.ok (.string s) W:=fun _ _ _ _=>by kernel_rfl
 go_enter Tryz.func190,Tryz.ntmps190
 go_upto_region 1 with fail
 obtain ⟨w1,hw1⟩:∃ W,w.alloc (.cells #[.int .u8 0,.int .u8 0,.string ⟨#[]⟩,.string ⟨#[]⟩,.slice none 0 0,.int .i64 0,.int .i64 0] 41)=W:=⟨_,rfl⟩
 have HN1:=hid (show But (fun i=>i=b) w w1 from by rw [<- hw1];exact (But.refl _ _).al _)
 have HT1:=hid (show BxL 41 w.heap.size [.int .u8 0,.int .u8 0,.string ⟨#[]⟩,.string ⟨#[]⟩,.slice none 0 0,.int .i64 0,.int .i64 0] w1 from by rw [<- hw1];exact BxL.new _ _ _)
 have HD1:=hid (show Rd b O S.p.width pw cw S.inn S.step ws k w1 from by rw [<- hw1];exact HD.al _)
 have HK1:=hid HLE.out
 have HS1:=hid (show w1.heap.size=w.heap.size+1 from by rw [<- hw1,sA])
 rw [hw1]
 clear hw1
 have hS:(fun W=>W.cell? ⟨b,11,none⟩=some (.int .i64 (S.inn:Int))) w1.drew:=HD1.box.at 11 rfl
 have hFa:=fT
 refine rgP (fun _ _ _ h=>h) (fun W=>W.cell? ⟨b,11,none⟩=some (.int .i64 (S.inn:Int))) 8 (by kernel_rfl) ?_
 simp only [zP,Nat.reduceAdd]
 iterate 6 (refine nxW (v:=?_) 8 hS ?_ ?_;rotate_left;(focus rintro w' s0;go_simp;try rfl);simp only [aP])
 refine oy 6 fun K hK=>?_
 go_simp
 (with_reducible refine (callsIn_wide.2 (first_any (HD1.out.below (Below.refl _ _).drew) HW.out)).mono ?_)
 rintro e w2 ⟨rfl,hb⟩
 have HD2:=hid ((HD1.below (Below.refl _ _).drew).below hb)
 have HN2:=hid (HN1.dr.trans (But.of_below _ hb))
 have HT2:=hid ((HT1.bel (Below.refl _ _).drew).bel hb)
 have hS2:(fun W=>W.cell? ⟨b,11,none⟩=some (.int .i64 (S.inn:Int))) w2:=HD2.box.at 11 rfl
 clear hb hS
 refine hK _ _ (.inr (.inr hS2)) ?_
 clear hK K
 refine oy 7 fun K hK=>?_
 go_simp
 (with_reducible refine (callsIn_wide.2 (pneed_any _ (fpos ws) _ _)).mono ?_)
 rintro e w3 ⟨hb,⟨hc,rfl⟩ | ⟨hc,rfl⟩⟩
 rotate_left
 ·exact ⟨rfl,(HN2.trans (But.of_below _ hb)).below HBZ.out (fun i e=>e ▸ HBB.out),.inl ⟨_,by unfold retI;rw [show decide (S.inn=1)=false from by have h:=hc;simp at h ⊢;omega];rfl,rfl⟩⟩
 have HIN:=hid (show decide (S.inn=1)=true from by have h:=hc;simp at h ⊢;omega)
 have HD3:=hid (HD2.below hb)
 have HN3:=hid (HN2.trans (But.of_below _ hb))
 have HT3:=hid (HT2.bel hb)
 have hS3:(fun W=>W.cell? ⟨b,11,none⟩=some (.int .i64 (S.inn:Int))) w3:=HD3.box.at 11 rfl
 have HK3:=hid HLE.out
 clear hb hc hS2
 refine hK _ _ (.inr (.inr hS3)) (dN ?_)
 clear hK K
 simp only [onlyP,Exit.then]
 clear hFa
 clear hS3
 go_upto_region 2 with fail
 have HOP3:=hid (show Calls Tryz.prog 196 #[.pointer (some ⟨b,0,none⟩),.int .i64 1] w3 _ from poperands_any 1 (by decide) HD3.out HK3.out HW.out HBB.out)
 go_wp2_with (go_at_call 196;(with_reducible refine HOP3.out.mono ?_);rintro e w4 ⟨hb,⟨f1,hm,rfl⟩ | ⟨a4,k4,v,hm,hk,rfl,hv,hd,hn⟩⟩;(focus (exact ⟨rfl,(HN3.out.below HBZ.out (fun i e=>e ▸ HBB.out)).trans hb,.inl ⟨f1,by (unfold retI;rw [HIN.out];simp only [needM,if_true,bind,Except.bind];rw [hm];try rfl),rfl⟩⟩));obtain ⟨hsl,hlen⟩:=hv;obtain ⟨pa,ca,hva⟩:=hsl.slc;subst hva;have HSL4:=hid hsl;have HLN:=hid hlen;obtain ⟨LN,hLN⟩:∃ n,a4.length=n:=⟨_,rfl⟩;rw [hLN] at HSL4 ⊢;have HLE4:=hid hLN;have HM4:=hid hm;have HK4:=hid hk;have HD4:=hid hd;have HN4:=hid (HN3.out.trans hn);have HT4:=hid (HT3.out.but hn (by have:=HSZ.out;omega));have HB4:=hid hn;clear hb hm hk hd hn;clear hsl hlen hLN;obtain ⟨t0,t1,t2,t3,t4,t5,t6⟩:=HT4.out.p7;have f0:=HT4.out.fr 0;have f1:=HT4.out.fr 1;have f2:=HT4.out.fr 2;have f3:=HT4.out.fr 3;have f4:=HT4.out.fr 4;have f5:=HT4.out.fr 5;have f6:=HT4.out.fr 6)
 generalize hw:World.setCell _ _ _=w5
 have HT5:=hid (show BxL 41 w.heap.size [.int .u8 12,.int .u8 0,.string ⟨#[]⟩,.string ⟨#[]⟩,.slice pa LN ca,.int .i64 0,.int .i64 0] w5 from by rw [<- hw];exact (((((((HT4.set 0 _).set 1 _).set 2 _).set 3 _).set 4 _).set 5 _).set 6 _))
 have HD5:=hid (show Rd b O S.p.width pw cw S.inn S.step ws k4 w5 from by rw [<- hw];exact (((((((HD4.other _ HSZ.out).other _ HSZ.out).other _ HSZ.out).other _ HSZ.out).other _ HSZ.out).other _ HSZ.out).other _ HSZ.out))
 have HN5:=hid (show But (fun i=>i=b) w w5 from by rw [<- hw];exact (((((((HN4.setC _ (.inr lrf)).setC _ (.inr lrf)).setC _ (.inr lrf)).setC _ (.inr lrf)).setC _ (.inr lrf)).setC _ (.inr lrf)).setC _ (.inr lrf)))
 have HC5:=hid (show But (fun i=>i=w.heap.size) w4 w5 from by rw [<- hw];exact ((((((((But.refl (fun i=>i=w.heap.size) w4).setC _ (.inl rfl)).setC _ (.inl rfl)).setC _ (.inl rfl)).setC _ (.inl rfl)).setC _ (.inl rfl)).setC _ (.inl rfl)).setC _ (.inl rfl)))
 have HK5:=hid HK4.out
 clear hw t0 t1 t2 t3 t4 t5 t6 f0 f1 f2 f3 f4 f5 f6
 obtain ⟨t0,t1,t2,t3,t4,t5,t6⟩:=HT5.p7
 refine bodyPost_ret (v := .agg #[.int .u8 12,.int .u8 0,.string ⟨#[]⟩,.string ⟨#[]⟩,.slice pa LN ca,.int .i64 0,.int .i64 0]) (by simp [results,Tryz.results190,go_sem,t0,t1,t2,t3,t4,t5,t6]) rfl ?_
 exact ⟨HN5.below HBZ.out (fun i e=>e ▸ HBB.out),.inr ⟨{ in0 with kind:=12,args:=a4 },k4,_,by (unfold retI;rw [HIN.out];simp only [needM,if_true,bind,Except.bind];rw [HM4.out];simp only [bind,Except.bind];try rfl),HK4.out,rfl,⟨pa,ca,by rw [HLE4.out];rfl,by rw [HLE4.out];exact HSL4.keep fun i hi=>by have h:=((But.refl (fun i=>i=b\/i=w.heap.size) w4).trans (HC5.mono fun i h => .inr h));have:=HN3.size;have:=HSZ.out;have hs1:w.heap.size+1<=w3.heap.size:=(by have:=HT3.lt;omega);exact ⟨⟨by omega,Nat.lt_of_lt_of_le hi.2 h.size⟩,h.block i hi.2 (fun e=>by rcases e with e | e <;> omega)⟩⟩,HD5.out,HN5.out⟩⟩
theorem phalt_any {B b:Nat} {O:Nat->Value} {pw:Option Addr} {cw:Nat} {ws:List Wd} {S:PS} {k:Nat} {w:World} (hp:Pm B b O pw cw ws S k w):Calls Tryz.prog 189 #[.pointer (some ⟨b,0,none⟩)] w (RdP B b O S.p.width pw cw S.inn S.step ws (InV w) w (.ok ({ in0 with kind:=11 },ws.drop k))):=by
 have HPM:=hid hp
 clear hp
 go_enter Tryz.func189,Tryz.ntmps189
 go_wp2
 refine bodyPost_ret (v := .agg #[.int .u8 11,.int .u8 0,.string ⟨#[]⟩,.string ⟨#[]⟩,.slice none 0 0,.int .i64 0,.int .i64 0]) (by simp [results,Tryz.results189,go_sem]) rfl ?_
 have hb:Below w.heap.size w (w.alloc (.cells #[.int .u8 11,.int .u8 0,.string ⟨#[]⟩,.string ⟨#[]⟩,.slice none 0 0,.int .i64 0,.int .i64 0] 41)):=bA
 exact ⟨hb.mono HPM.size,.inr ⟨_,k,_,rfl,HPM.le,rfl,⟨none,0,rfl,SlG.nil⟩,HPM.rd.below hb,But.of_below _ hb⟩⟩
end Go.Proofs.YtoofbgoeipijcaaGreatDoor
