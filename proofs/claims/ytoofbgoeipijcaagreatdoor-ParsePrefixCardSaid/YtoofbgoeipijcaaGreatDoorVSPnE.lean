/-
 A part.
-/
import Derived.Test.YtoofbgoeipijcaaGreatDoorVB17
import Derived.Deep.DeepCutAuto
namespace Go.Proofs.YtoofbgoeipijcaaGreatDoor
set_option linter.all false
open Go.RowKit Go.Shelf
attribute [local go_sem] Oper.semAt_some
def InsP (B b:Nat) (pw:Option Addr) (cw:Nat) (ws:List Wd) (m:PE PS) (w:World) (e:Ending) (w':World):Prop :=
 Below B w w'/\((∃ f,m=.error f/\e=.panicked (fltP f))\/∃ S' O' k',m=.ok S'/\e=.returned (.tuple #[])/\Pm B b O' pw cw ws S' k' w')
theorem ins_end {S:PS} {c:Wd} {r:List Wd} (h:c.1=kEnd):instructP S c r=match endP r with | .error e => .error e | .ok _ => .ok { S with inn:=if S.inn=2 then 3 else 0 }:=by
 unfold instructP;rw [if_pos h];cases endP r <;> rfl
theorem ins_none {s:Bs} (h0:s ≠ kStore) (h1:s ≠ wkIn) (h2:s ≠ kOut) (h3:s ≠ kJump) (h4:s ≠ kIf) (h5:s ≠ kHalt) (h6:s ≠ kRet):getS insE s=none:=by
 unfold getS insE
 simp only [List.find?_cons,List.find?_nil,decide_eq_false (Ne.symm h0),decide_eq_false (Ne.symm h1),decide_eq_false (Ne.symm h2),decide_eq_false (Ne.symm h3),decide_eq_false (Ne.symm h4),decide_eq_false (Ne.symm h5),decide_eq_false (Ne.symm h6)]
 rfl
theorem info_inP:(Tryz.prog.info? 41).map (fun i=>(i.zero,i.size,i.bytes))=some (some (.agg #[.int .u8 0,.int .u8 0,.string ⟨#[]⟩,.string ⟨#[]⟩,.slice none 0 0,.int .i64 0,.int .i64 0]),kIn.n,80):=by kernel_rfl
theorem cell_same {w w':World} {g i:Nat} (h:w'.heap[g]?=w.heap[g]?):w'.cell? ⟨g,i,none⟩=w.cell? ⟨g,i,none⟩:=by simp [World.cell?,h]
theorem froz_same {w w':World} {g i:Nat} (h:w'.heap[g]?=w.heap[g]?):w'.frozen? ⟨g,i,none⟩=w.frozen? ⟨g,i,none⟩:=by simp [World.frozen?,h]
theorem CPtr.ne {b pb po:Nat} {O:Nat->Value} {S:PS} {w:World} (h:CPtr b O S ⟨pb,po,none⟩) (ho:Owns b O w):(O (cslot S)).ownBlock ≠ some pb:=by
 rcases h with ⟨hi,g,hg,e⟩ | ⟨hi,e⟩
 ·cases e
  rw [show cslot S=20 from if_pos hi]
  exact fun h=>ho.ne 3 20 _ (by decide) hg h
 ·cases e
  intro h;have:=(ho.lt _ b h).1;omega
theorem cslot_ne (S:PS):30 ≠ cslot S:=by unfold cslot;split <;> decide
theorem CPtr.ge {B b pb po:Nat} {O:Nat->Value} {S:PS} {w:World} (h:CPtr b O S ⟨pb,po,none⟩) (ho:Owns b O w) (hB:B<=b):B<=pb:=by
 rcases h with ⟨hi,g,hg,e⟩ | ⟨hi,e⟩
 ·cases e
  have:=(ho.lt 3 _ hg).1;omega
 ·cases e;exact hB
def ins2 (S:PS) (c:Wd):PE (In × List Bs × List Bs × List Wd)->PE PS
 | .error e => .error e
 | .ok (x,lb,st,q)=>match endP q with
  | .error e => .error e
  | .ok _ => .ok { S with p:=putCode S (codeP S++[{ x with pos:=wpos c }]),labels:=lb,sites:=st }
theorem ins_long {S:PS} {c:Wd} {r:List Wd} (h:c.1 ≠ kEnd) (hl:¬ (codeP S).length<1024):instructP S c r=.error (wpos c,5):=by
 unfold instructP;rw [if_neg h];simp only [needM,decide_eq_false hl];rfl
theorem ins_eq {S:PS} {c:Wd} {r:List Wd} (h:c.1 ≠ kEnd) (hl:(codeP S).length<1024):instructP S c r=ins2 S c (instrP S (wpos c) c r):=by
 unfold instructP ins2;rw [if_neg h];simp only [needM,decide_eq_true hl,if_true,bind,Except.bind]
 cases instrP S (wpos c) c r with
 | error e=>rfl
 | ok p=>dsimp only;cases endP p.2.2.2 <;> rfl
abbrev setC7 (w:World) (q:Nat) (x:In) (av:Value):World:=((((((w.setCell ⟨q,0,none⟩ (.int .u8 (x.kind:Int))).setCell ⟨q,1,none⟩ (.int .u8 (x.op:Int))).setCell ⟨q,2,none⟩ (.string ⟨x.dst.toArray⟩)).setCell ⟨q,3,none⟩ (.string ⟨x.nm.toArray⟩)).setCell ⟨q,4,none⟩ av).setCell ⟨q,5,none⟩ (.int .i64 x.pos.1)).setCell ⟨q,6,none⟩ (.int .i64 x.pos.2)
theorem BxL.c7 {q:Nat} {c0 c1 c2 c3 c4 c5 c6:Value} {w:World} (h:BxL 41 q [c0,c1,c2,c3,c4,c5,c6] w) (x:In) (av:Value):BxL 41 q (inL x av) (setC7 w q x av):=((((((h.set 0 _).set 1 _).set 2 _).set 3 _).set 4 _).set 5 _).set 6 _
theorem But.c7 {F:Nat->Prop} {w w':World} (h:But F w w') {q:Nat} (hq:F q\/w.heap.size<=q) (x:In) (av:Value):But F w (setC7 w' q x av):=((((((h.setC _ hq).setC _ hq).setC _ hq).setC _ hq).setC _ hq).setC _ hq).setC _ hq
theorem Pm.c7 {B b:Nat} {O:Nat->Value} {pw:Option Addr} {cw:Nat} {ws:List Wd} {S:PS} {k:Nat} {w:World} (h:Pm B b O pw cw ws S k w) {q:Nat} (hq:(O 30).ownBlock=some q) (x:In) (av:Value):Pm B b O pw cw ws S k (setC7 w q x av):=((((((h.poke hq _).poke hq _).poke hq _).poke hq _).poke hq _).poke hq _).poke hq _
def InsR (B b:Nat) (OB:Nat->Value) (pw:Option Addr) (cw:Nat) (ws:List Wd) (S:PS) (a:Wd) (k1 q q4:Nat) (w wx:World):Prop :=
 ∃ x lb st k2 v9 v10 pa ca,instrP S (wpos a) a (ws.drop k1)=.ok (x,lb,st,ws.drop k2)/\Pm B b (upd (upd OB 9 v9) 10 v10) pw cw ws { S with labels:=lb,sites:=st } k2 wx/\BxL 41 q4 (inL x (.slice pa x.args.length ca)) wx /\
  SlG kAg (fun i=>q4<i/\i<wx.heap.size/\v9.ownBlock ≠ some i/\v10.ownBlock ≠ some i) wx (.slice pa x.args.length ca) x.args/\BxL 128 q [.string ⟨a.1.toArray⟩,.int .i64 (a.2.1:Int),.int .i64 (a.2.2:Int)] wx/\Below B w wx
theorem InsR.of {B b:Nat} {OB:Nat->Value} {pw pa:Option Addr} {cw ca:Nat} {ws:List Wd} {S:PS} {a:Wd} {k1 k2 q q4:Nat} {w w7 w8:World} {x:In} (hp:Pm B b OB pw cw ws S k1 w7) (h30:(OB 30).ownBlock=some q4) (hq:q<q4) (hbq:b<q)
  (hx:BxL 128 q [.string ⟨a.1.toArray⟩,.int .i64 (a.2.1:Int),.int .i64 (a.2.2:Int)] w7) (ht:BxL 41 q4 [.int .u8 0,.int .u8 0,.string ⟨#[]⟩,.string ⟨#[]⟩,.slice none 0 0,.int .i64 0,.int .i64 0] w7) (hbw:Below B w w7) (hBw:B<=w7.heap.size) (hd:Rd b OB S.p.width pw cw S.inn S.step ws k2 w8) (hn:But (fun i=>i=b) w7 w8) (hk:k2<=ws.length) (hBb:B<=b)
  (hm:instrP S (wpos a) a (ws.drop k1)=.ok (x,S.labels,S.sites,ws.drop k2)) (hsl:SlG kAg (fun i=>w7.heap.size<=i/\i<w8.heap.size) w8 (.slice pa x.args.length ca) x.args) :
  InsR B b OB pw cw ws S a k1 q q4 w (setC7 w8 q4 x (.slice pa x.args.length ca)):=by
 have hn8:But (fun i=>i=b\/i=q4) w7 (setC7 w8 q4 x (.slice pa x.args.length ca)):=(hn.mono fun i h => .inl h).c7 (.inl (.inr rfl)) _ _
 have h8:But (fun i=>i=q4) w8 (setC7 w8 q4 x (.slice pa x.args.length ca)):=(But.refl (fun i=>i=q4) w8).c7 (.inl rfl) _ _
 have hq4:=ht.lt
 refine ⟨x,S.labels,S.sites,k2,OB 9,OB 10,pa,ca,hm,?_,(ht.but hn (by omega)).c7 x _,?_,?_,hbw.trans (hn8.below hBw fun i h=>by rcases h with h | h <;> omega)⟩
 ·have h:=(hp.read hd hn hk).c7 h30 x (.slice pa x.args.length ca)
  rw [upd_self,upd_self]
  exact h
 ·exact hsl.keep fun i hi=>⟨⟨by omega,Nat.lt_of_lt_of_le hi.2 h8.size,fun e=>by have:=(hp.rs.ow.lt 9 i e).2;omega,fun e=>by have:=(hp.rs.ow.lt 10 i e).2;omega⟩,h8.block i hi.2 (by omega)⟩
 ·exact hx.keep (hn8.block q hx.lt fun h=>by rcases h with h | h <;> omega)
theorem InsR.asg {B b:Nat} {OB:Nat->Value} {pw pa:Option Addr} {cw ca:Nat} {ws:List Wd} {S:PS} {a:Wd} {k1 k2 q q4:Nat} {w w7 w8:World} {x:In} {v10:Value} {sites:List Bs} (hp:Pm B b OB pw cw ws S k1 w7) (h30:(OB 30).ownBlock=some q4) (hq:q<q4) (hbq:b<q)
  (hx:BxL 128 q [.string ⟨a.1.toArray⟩,.int .i64 (a.2.1:Int),.int .i64 (a.2.2:Int)] w7) (ht:BxL 41 q4 [.int .u8 0,.int .u8 0,.string ⟨#[]⟩,.string ⟨#[]⟩,.slice none 0 0,.int .i64 0,.int .i64 0] w7) (hbw:Below B w w8) (hBw:B<=w7.heap.size) (hps:Pm B b (upd OB 10 v10) pw cw ws { S with sites:=sites } k2 w8) (hst:Step b OB 10 w7 w8) (hq10:(OB 10).ownBlock ≠ some q) (hBb:B<=b)
  (hm:instrP S (wpos a) a (ws.drop k1)=.ok (x,S.labels,sites,ws.drop k2)) (hsl:SlG kAg (fun i=>w7.heap.size<=i/\i<w8.heap.size/\v10.ownBlock ≠ some i) w8 (.slice pa x.args.length ca) x.args) :
  InsR B b OB pw cw ws S a k1 q q4 w (setC7 w8 q4 x (.slice pa x.args.length ca)):=by
 have h8:But (fun i=>i=q4) w8 (setC7 w8 q4 x (.slice pa x.args.length ca)):=(But.refl (fun i=>i=q4) w8).c7 (.inl rfl) _ _
 have hq4:=ht.lt
 have h10:(OB 10).ownBlock ≠ some q4:=hp.rs.ow.ne 30 10 q4 (by decide) h30
 refine ⟨x,S.labels,sites,k2,OB 9,v10,pa,ca,hm,?_,(ht.keep (hst.block q4 hq4 (by omega) h10)).c7 x _,?_,?_,hbw.trans (h8.below (Nat.le_trans hBw hst.size) fun i h=>by subst h;omega)⟩
 ·rw [upd_self]
  exact hps.c7 (by rw [upd_ne OB _ (by decide)];exact h30) x _
 ·exact hsl.keep fun i hi=>⟨⟨by omega,Nat.lt_of_lt_of_le hi.2.1 h8.size,fun e=>by have:=(hp.rs.ow.lt 9 i e).2;omega,hi.2.2⟩,h8.block i hi.2.1 (by omega)⟩
 ·exact (hx.keep (hst.block q hx.lt (by omega) hq10)).keep (h8.block q (Nat.lt_of_lt_of_le hx.lt hst.size) (by omega))
theorem InsR.lab {B b:Nat} {OB:Nat->Value} {pw:Option Addr} {cw:Nat} {ws:List Wd} {S:PS} {a:Wd} {k1 q q4:Nat} {w w7 w8:World} {x:In} {v9:Value} {lb:List Bs} (hp:Pm B b OB pw cw ws S k1 w7) (h30:(OB 30).ownBlock=some q4) (hq:q<q4) (hbq:b<q)
  (hx:BxL 128 q [.string ⟨a.1.toArray⟩,.int .i64 (a.2.1:Int),.int .i64 (a.2.2:Int)] w8) (ht:BxL 41 q4 [.int .u8 0,.int .u8 0,.string ⟨#[]⟩,.string ⟨#[]⟩,.slice none 0 0,.int .i64 0,.int .i64 0] w8) (hbw:Below B w w8) (hps:Pm B b (upd OB 9 v9) pw cw ws { S with labels:=lb } k1 w8)
  (hm:instrP S (wpos a) a (ws.drop k1)=.ok (x,lb,S.sites,ws.drop k1)) (hxa:x.args=[]) (hBb:B<=b):InsR B b OB pw cw ws S a k1 q q4 w (setC7 w8 q4 x (.slice none 0 0)):=by
 have h8:But (fun i=>i=q4) w8 (setC7 w8 q4 x (.slice none 0 0)):=(But.refl (fun i=>i=q4) w8).c7 (.inl rfl) _ _
 refine ⟨x,lb,S.sites,k1,v9,(upd OB 9 v9) 10,none,0,hm,?_,by rw [hxa];exact ht.c7 x _,by rw [hxa];exact SlG.nil,hx.keep (h8.block q hx.lt (by omega)),hbw.trans (h8.below hps.size fun i h=>by subst h;omega)⟩
 rw [upd_self]
 exact hps.c7 (by rw [upd_ne OB _ (by decide)];exact h30) x _
theorem lift_some {S:PS} {m:PE (In × List Wd)} {x:In} {q:List Wd} (h:m=.ok (x,q)):liftI S m=.ok (x,S.labels,S.sites,q):=by rw [h];rfl
set_option maxRecDepth 100000 in
set_option maxHeartbeats 4000000 in
theorem pinstruct_any {B b:Nat} {O:Nat->Value} {pw:Option Addr} {cw:Nat} {ws:List Wd} {S:PS} {w:World} {c:Wd} {r:List Wd} (hws:ws=c :: r) (hp:Pm B b O pw cw ws S 0 w) (hw:WOk ws) (hok:SOk S) (hin:S.inn=1\/S.inn=2):Calls Tryz.prog 110 #[.pointer (some ⟨b,0,none⟩)] w (InsP B b pw cw ws (instructP S c r) w):=by
 have hd:=hp.rd
 have hk:=hp.le
 have hB:=hp.ge
 have HWS:=hid hws
 have HPM:=hid hp;have HOK:=hid hok;have HIN:=hid hin
 clear hp hok hin hws
 have HD:=hid hd;have HW:=hid hw;have HBB:=hid hB;have HLE:=hid hk;have HSZ:=hid hd.box.lt
 have HBZ:=hid (show B<=w.heap.size from Nat.le_of_lt (Nat.lt_of_le_of_lt hB hd.box.lt))
 clear hd hw hB hk
 go_enter Tryz.func110,Tryz.ntmps110
 go_upto_region 1 with (go_at_call 144;(with_reducible refine (next_any HD.out HLE.out HW.out HBB.out).mono ?_);rintro e w1 ⟨hb,⟨f1,hm,rfl⟩ | ⟨a,k1,v,hm,hk,rfl,hv,hd,hn⟩⟩;(focus (exact ⟨rfl,((But.refl (fun i=>i=b) w).below HBZ.out (fun i e=>e ▸ HBB.out)).trans hb,.inl ⟨f1,absurd hm (by rw [HWS.out];simp [nextP]),rfl⟩⟩));obtain rfl:v=.agg #[.string ⟨a.1.toArray⟩,.int .i64 (a.2.1:Int),.int .i64 (a.2.2:Int)]:=hv)
 have HN1:=hid ((But.refl (fun i=>i=b) w).trans hn)
 have HM:=hid hm;have HK1:=hid hk
 clear hb hm hk hn
 generalize hw3:World.alloc w1 _=w3
 have hX3:BxL 128 w1.heap.size [.string ⟨a.1.toArray⟩,.int .i64 (a.2.1:Int),.int .i64 (a.2.2:Int)] w3:=by rw [<- hw3];exact BxL.new _ _ _
 have HD3:=hid (show Rd b O S.p.width pw cw S.inn S.step ws k1 w3 from by rw [<- hw3];exact hd.al _)
 have HN3:=hid (show But (fun i=>i=b) w w3 from by rw [<- hw3];exact HN1.al _)
 clear hw3 hd
 generalize hq:w1.heap.size=q at hX3 ⊢
 have HX3:=hid hX3
 have HQ:=hid (show w.heap.size<=q from by rw [<- hq];exact HN1.size)
 clear hq
 have HP3:=hid (HPM.read HD3.out HN3.out HK1.out)
 clear hX3
 obtain ⟨hac,hrr⟩:a=c/\ws.drop k1=r:=by
  have h:=HM.out
  rw [HWS.out] at h ⊢
  simp only [List.drop_zero,nextP,Except.ok.injEq,Prod.mk.injEq] at h
  exact ⟨h.1.symm,h.2.symm⟩
 subst hac
 have HRR:=hid hrr
 have HFP:=hid (show fpos ws=wpos a from by rw [HWS.out];rfl)
 clear hrr
 obtain ⟨n0,n1,n2⟩:=HX3.p3
 by_cases h:a.1=kEnd
 ·have HME:=hid (ins_end (S:=S) (r:=r) h)
  have g0:(a.1 == ([101,110,100]:Bs))=true:=by rw [h];rfl
  clear h
  go_upto_region 3 with (go_at_call 146;(with_reducible refine (pend_any HD3.out HK1.out HW.out HBB.out).mono ?_);rintro e w4 ⟨hb,⟨f1,hm,rfl⟩ | ⟨hm,hnil,rfl,hd,hn⟩⟩;(focus (exact ⟨rfl,(HN3.out.below HBZ.out (fun i e=>e ▸ HBB.out)).trans hb,.inl ⟨f1,by (rw [HME.out,<- HRR.out,hm]),rfl⟩⟩));have HD4:=hid hd;have HN4:=hid (HN3.out.trans hn);have HM4:=hid hm;clear hb hm hnil hd hn n0 n1 n2)
  have HP4:=hid (HPM.read HD4.out HN4.out HK1.out)
  have c11:=HD4.box.at 11 rfl
  have f11:=HD4.box.fr 11
  clear g0
  rcases HIN.out with hi | hi
  ·have g1:((S.inn:Int) == 2)=false:=by rw [hi];rfl
   have HI:=hid hi
   clear hi
   go_wp2_with fail
   refine bodyPost_ret (results_none rfl _ _ _) rfl ?_
   obtain ⟨O',hp'⟩:=HP4.close HOK.out 0 (by decide)
   have hn:But (fun i=>i=b) w (w4.setCell ⟨b,11,none⟩ (.int .i64 0)):=HN4.setC _ (.inl rfl)
   exact ⟨hn.below HBZ.out (fun i e=>e ▸ HBB.out),.inr ⟨_,O',k1,by rw [HME.out,<- HRR.out,HM4.out,HI.out];rfl,rfl,hp'⟩⟩
  ·have g1:((S.inn:Int) == 2)=true:=by rw [hi];rfl
   have HI:=hid hi
   clear hi
   go_wp2_with fail
   refine bodyPost_ret (results_none rfl _ _ _) rfl ?_
   obtain ⟨O',hp'⟩:=HP4.close HOK.out 3 (by decide)
   have hn:But (fun i=>i=b) w (w4.setCell ⟨b,11,none⟩ (.int .i64 3)):=HN4.setC _ (.inl rfl)
   exact ⟨hn.below HBZ.out (fun i e=>e ▸ HBB.out),.inr ⟨_,O',k1,by rw [HME.out,<- HRR.out,HM4.out,HI.out];rfl,rfl,hp'⟩⟩
 have HNE:=hid h
 have g0:(a.1 == ([101,110,100]:Bs))=false:=beq_eq_false_iff_ne.2 h
 clear h
 go_upto_region 7 with (go_at_call 147;(with_reducible refine (pcode_any HP3.out HOK.out).mono ?_);rintro e w4 ⟨p,rfl,hc,hb⟩;have HC:=hid hc;have HP4:=hid (HP3.out.below hb);have HN4:=hid (HN3.out.trans (But.of_below _ hb));have HX4:=hid (HX3.out.bel hb);clear hc hb n0 n1 n2)
 clear g0
 obtain ⟨pb,po,hpp⟩:∃ pb po,p=⟨pb,po,none⟩:=by
  rcases HC.out with ⟨_,g,_,h⟩ | ⟨_,h⟩
  ·exact ⟨_,_,h⟩
  ·exact ⟨_,_,h⟩
 subst hpp
 obtain ⟨hcp,hfp,hgc⟩:=HP4.codeAt HC.out
 obtain ⟨pv,cv,hO⟩:=hgc.slc
 obtain ⟨LC,hLC⟩:∃ n,(codeP S).length=n:=⟨_,rfl⟩
 rw [hLC] at hO
 have HO:=hid hO;have HLC:=hid hLC
 rw [hO] at hcp
 have hS:(fun W=>W.cell? ⟨pb,po,none⟩=some (.slice pv LC cv)/\W.cell? ⟨q,1,none⟩=some (.int .i64 (a.2.1:Int))/\W.cell? ⟨q,2,none⟩=some (.int .i64 (a.2.2:Int))) w4.drew:=⟨hcp,HX4.at 1 rfl,HX4.at 2 rfl⟩
 clear hcp hfp hgc hO hLC
 have hFa:=fT
 refine rgP (fun _ _ _ h=>h) (fun W=>W.cell? ⟨pb,po,none⟩=some (.slice pv LC cv)/\W.cell? ⟨q,1,none⟩=some (.int .i64 (a.2.1:Int))/\W.cell? ⟨q,2,none⟩=some (.int .i64 (a.2.2:Int))) 8 (by kernel_rfl) ?_
 simp only [zP,Nat.reduceAdd]
 iterate 7 (refine nxW (v:=?_) 8 hS ?_ ?_;rotate_left;(focus rintro w' ⟨s0,s1,s2⟩;go_simp;try rfl);simp only [aP])
 refine oy 7 fun K hK=>?_
 go_simp
 (with_reducible refine (callsIn_wide.2 (pneed_any _ ((a.2.1:Int),(a.2.2:Int)) _ _)).mono ?_)
 rintro e w5 ⟨hb,⟨hc,rfl⟩ | ⟨hc,rfl⟩⟩
 rotate_left
 ·exact ⟨rfl,(HN4.dr.trans (But.of_below _ hb)).below HBZ.out (fun i e=>e ▸ HBB.out),.inl ⟨_,ins_long HNE.out (by rw [HLC.out];have h:=hc;simp at h;omega),rfl⟩⟩
 have HLT:=hid (show LC<1024 from by have h:=hc;simp at h;omega)
 have HP5:=hid (HP4.dr.below hb)
 have HN5:=hid (HN4.dr.trans (But.of_below _ hb))
 have HX5:=hid ((HX4.bel (Below.refl _ _).drew).bel hb)
 have hS5:(fun W=>W.cell? ⟨pb,po,none⟩=some (.slice pv LC cv)/\W.cell? ⟨q,1,none⟩=some (.int .i64 (a.2.1:Int))/\W.cell? ⟨q,2,none⟩=some (.int .i64 (a.2.2:Int))) w5:=⟨cB hb hS.1,HX5.at 1 rfl,HX5.at 2 rfl⟩
 clear hb hc hS
 refine hK _ _ (.inr (.inr hS5)) (dN ?_)
 clear hK K
 simp only [onlyP,Exit.then]
 clear hFa
 clear hS5
 have HME:=hid (ins_eq (S:=S) (c:=a) (r:=r) HNE.out (by rw [HLC.out];exact HLT.out))
 go_upto_region 9 with fail
 generalize hw:World.alloc w5 _=w6
 have HT6:=hid (show BxL 41 w5.heap.size [.int .u8 0,.int .u8 0,.string ⟨#[]⟩,.string ⟨#[]⟩,.slice none 0 0,.int .i64 0,.int .i64 0] w6 from by rw [<- hw];exact BxL.new _ _ _)
 have HP6:=hid (show Pm B b (upd O 30 (ownV w5.heap.size)) pw cw ws S k1 w6 from by rw [<- hw];exact HP5.box _)
 have HN6:=hid (show But (fun i=>i=b) w w6 from by rw [<- hw];exact HN5.al _)
 have HX6:=hid (show BxL 128 q [.string ⟨a.1.toArray⟩,.int .i64 (a.2.1:Int),.int .i64 (a.2.2:Int)] w6 from by rw [<- hw];exact HX5.al _)
 have HQ5:=hid (show q<w5.heap.size from HX5.lt)
 have HW5:=hid (show w.heap.size<=w5.heap.size from HN5.size)
 clear hw
 generalize hq4:w5.heap.size=q4 at HT6 HP6 HQ5 HW5 ⊢
 clear hq4
 obtain ⟨OB,hOB⟩:∃ o,upd O 30 (ownV q4)=o:=⟨_,rfl⟩
 rw [hOB] at HP6
 have HOB:=hid hOB
 clear hOB
 obtain ⟨gv,hgv⟩:∃ v,(getS insE a.1).getD .nilFunc=v:=⟨_,rfl⟩
 obtain ⟨gb,hgb⟩:∃ v,(getS insE a.1).isSome=v:=⟨_,rfl⟩
 have HGV:=hid hgv;have HGB:=hid hgb
 clear hgv hgb
 have hS:(fun W=>W.cell? ⟨q,0,none⟩=some (.string ⟨a.1.toArray⟩)) w6.drew:=HX6.at 0 rfl
 have hFa:=fT
 refine rgN (fun W=>W.cell? ⟨q,0,none⟩=some (.string ⟨a.1.toArray⟩)) 9 (by kernel_rfl) ?_
 simp only [zP,Nat.reduceAdd]
 iterate 2 (refine nxW (v:=?_) 10 hS ?_ ?_;rotate_left;(focus rintro w' s0;go_simp;try rfl);simp only [aP])
 refine oy 0 fun K hK=>?_
 go_simp
 (with_reducible refine (callsIn_wide.2 (instructions_any w6.drew)).mono ?_)
 rintro e w7 ⟨rm,rfl,hrm,hmap,hb⟩
 have HP7:=hid (HP6.dr.below hb)
 have HN7:=hid (HN6.dr.trans (But.of_below _ hb))
 have HX7:=hid ((HX6.bel (Below.refl _ _).drew).bel hb)
 have HT7:=hid ((HT6.bel (Below.refl _ _).drew).bel hb)
 have hS7:(fun W=>W.cell? ⟨q,0,none⟩=some (.string ⟨a.1.toArray⟩)) w7:=HX7.at 0 rfl
 have HMAP:=hid hmap
 clear hb hmap hrm hS
 refine hK _ _ (.inr (.inr hS7)) ?_
 clear hK K
 refine oy 3 fun K hK=>?_
 have hlk:(Instr.lookup 195 (.map (some rm)) (.string ⟨a.1.toArray⟩) true).run Tryz.prog w7=.ok (.tuple #[gv,.bool gb]) w7:=by
  have h:=run_lookS (P:=Tryz.prog) (w:=w7) (t:=195) (kt:=9) (e:=193) HMAP.out Tryz.underlying195 Tryz.underlying9 a.1 .nilFunc (by kernel_rfl) true
  rw [if_pos rfl,HGV.out,HGB.out] at h
  exact h
 go_simp
 clear hlk
 refine hK _ _ (.inr (.inr hS7)) ?_
 clear hK K
 iterate 5 (refine nxW (v:=?_) 9 hS7 ?_ ?_;rotate_left;(focus rintro w' s0;go_simp;try rfl);simp only [aP])
 refine wpHJ_done (by kernel_rfl) ?_ _
 simp only [onlyN,Exit.then]
 clear hFa
 clear hS7
 go_upto_if 44 with fail
 have H30:=hid (show (OB 30).ownBlock=some q4 from by rw [<- HOB.out,upd_eq];rfl)
 have HBQ:=hid (show b<q from by have:=HSZ.out;have:=HQ.out;omega)
 have HB7:=hid (HN7.below HBZ.out (fun i e=>e ▸ HBB.out))
 have HZ7:=hid (show B<=w7.heap.size from HP7.size)
 go_cut [] (fun wx=>InsR B b OB pw cw ws S a k1 q q4 w wx)
 case first =>
  by_cases h0:a.1=kStore
  ·have hg:gv=.func (.func 184) #[] #[]/\gb=true:=by rw [<- HGV.out,<- HGB.out,h0];exact ⟨rfl,rfl⟩
   obtain ⟨hg1,hg2⟩:=hg
   subst hg1 hg2
   have HMI:=hid (instr_kStore (S:=S) (f:=wpos a) (r:=ws.drop k1) h0)
   clear h0
   obtain ⟨t0,t1,t2,t3,t4,t5,t6⟩:=HT7.p7
   have f0:=HT7.fr 0
   have f1:=HT7.fr 1
   have f2:=HT7.fr 2
   have f3:=HT7.fr 3
   have f4:=HT7.fr 4
   have f5:=HT7.fr 5
   have f6:=HT7.fr 6
   go_wp2_with (go_at_call 184;(with_reducible refine (pstore_any HP7.out HW.out HOK.out).mono ?_);rintro e w8 ⟨hb,⟨f1,hm,rfl⟩ | ⟨x,k2,v,hm,hk,rfl,hv,hd,hn⟩⟩;(focus (exact ⟨rfl,HB7.out.trans hb,.inl ⟨f1,by (rw [HME.out,<- HRR.out,HMI.out,<- HFP.out,hm];rfl),rfl⟩⟩));obtain ⟨pa,ca,hvv,hsl⟩:=hv;subst hvv;have HR:=hid (InsR.of HP7.out H30.out HQ5.out HBQ.out HX7.out HT7.out HB7.out HZ7.out hd hn hk HBB.out (by (rw [HMI.out];exact lift_some (by rw [<- HFP.out];exact hm))) hsl);have HT8:=hid (HT7.out.but hn (by have:=HBQ.out;have:=HQ5.out;omega));clear hb hm hk hsl hd hn t0 t1 t2 t3 t4 t5 t6 f0 f1 f2 f3 f4 f5 f6;obtain ⟨LN,hLN⟩:∃ n,x.args.length=n:=⟨_,rfl⟩;rw [hLN] at HR ⊢;obtain ⟨t0,t1,t2,t3,t4,t5,t6⟩:=HT8.out.p7;have f0:=HT8.out.fr 0;have f1:=HT8.out.fr 1;have f2:=HT8.out.fr 2;have f3:=HT8.out.fr 3;have f4:=HT8.out.fr 4;have f5:=HT8.out.fr 5;have f6:=HT8.out.fr 6;clear hLN)
   go_meet
   case rel=>exact HR.out
  by_cases h1:a.1=wkIn
  ·have hg:gv=.func (.func 185) #[] #[]/\gb=true:=by rw [<- HGV.out,<- HGB.out,h1];exact ⟨rfl,rfl⟩
   obtain ⟨hg1,hg2⟩:=hg
   subst hg1 hg2
   have HMI:=hid (instr_wkIn (S:=S) (f:=wpos a) (r:=ws.drop k1) h1)
   clear h1
   obtain ⟨t0,t1,t2,t3,t4,t5,t6⟩:=HT7.p7
   have f0:=HT7.fr 0
   have f1:=HT7.fr 1
   have f2:=HT7.fr 2
   have f3:=HT7.fr 3
   have f4:=HT7.fr 4
   have f5:=HT7.fr 5
   have f6:=HT7.fr 6
   go_wp2_with (go_at_call 185;(with_reducible refine (pread_any HP7.out HW.out HOK.out).mono ?_);rintro e w8 ⟨hb,⟨f1,hm,rfl⟩ | ⟨x,k2,v,hm,hk,rfl,hv,hd,hn⟩⟩;(focus (exact ⟨rfl,HB7.out.trans hb,.inl ⟨f1,by (rw [HME.out,<- HRR.out,HMI.out,<- HFP.out,hm];rfl),rfl⟩⟩));obtain ⟨pa,ca,hvv,hsl⟩:=hv;subst hvv;have HR:=hid (InsR.of HP7.out H30.out HQ5.out HBQ.out HX7.out HT7.out HB7.out HZ7.out hd hn hk HBB.out (by (rw [HMI.out];exact lift_some (by rw [<- HFP.out];exact hm))) hsl);have HT8:=hid (HT7.out.but hn (by have:=HBQ.out;have:=HQ5.out;omega));clear hb hm hk hsl hd hn t0 t1 t2 t3 t4 t5 t6 f0 f1 f2 f3 f4 f5 f6;obtain ⟨LN,hLN⟩:∃ n,x.args.length=n:=⟨_,rfl⟩;rw [hLN] at HR ⊢;obtain ⟨t0,t1,t2,t3,t4,t5,t6⟩:=HT8.out.p7;have f0:=HT8.out.fr 0;have f1:=HT8.out.fr 1;have f2:=HT8.out.fr 2;have f3:=HT8.out.fr 3;have f4:=HT8.out.fr 4;have f5:=HT8.out.fr 5;have f6:=HT8.out.fr 6;clear hLN)
   go_meet
   case rel=>exact HR.out
  by_cases h2:a.1=kOut
  ·have hg:gv=.func (.func 186) #[] #[]/\gb=true:=by rw [<- HGV.out,<- HGB.out,h2];exact ⟨rfl,rfl⟩
   obtain ⟨hg1,hg2⟩:=hg
   subst hg1 hg2
   have HMI:=hid (instr_kOut (S:=S) (f:=wpos a) (r:=ws.drop k1) h2)
   clear h2
   obtain ⟨t0,t1,t2,t3,t4,t5,t6⟩:=HT7.p7
   have f0:=HT7.fr 0
   have f1:=HT7.fr 1
   have f2:=HT7.fr 2
   have f3:=HT7.fr 3
   have f4:=HT7.fr 4
   have f5:=HT7.fr 5
   have f6:=HT7.fr 6
   go_wp2_with (go_at_call 186;(with_reducible refine (pwrite_any HP7.out HW.out HOK.out).mono ?_);rintro e w8 ⟨hb,⟨f1,hm,rfl⟩ | ⟨x,k2,v,hm,hk,rfl,hv,hd,hn⟩⟩;(focus (exact ⟨rfl,HB7.out.trans hb,.inl ⟨f1,by (rw [HME.out,<- HRR.out,HMI.out,<- HFP.out,hm];rfl),rfl⟩⟩));obtain ⟨pa,ca,hvv,hsl⟩:=hv;subst hvv;have HR:=hid (InsR.of HP7.out H30.out HQ5.out HBQ.out HX7.out HT7.out HB7.out HZ7.out hd hn hk HBB.out (by (rw [HMI.out];exact lift_some (by rw [<- HFP.out];exact hm))) hsl);have HT8:=hid (HT7.out.but hn (by have:=HBQ.out;have:=HQ5.out;omega));clear hb hm hk hsl hd hn t0 t1 t2 t3 t4 t5 t6 f0 f1 f2 f3 f4 f5 f6;obtain ⟨LN,hLN⟩:∃ n,x.args.length=n:=⟨_,rfl⟩;rw [hLN] at HR ⊢;obtain ⟨t0,t1,t2,t3,t4,t5,t6⟩:=HT8.out.p7;have f0:=HT8.out.fr 0;have f1:=HT8.out.fr 1;have f2:=HT8.out.fr 2;have f3:=HT8.out.fr 3;have f4:=HT8.out.fr 4;have f5:=HT8.out.fr 5;have f6:=HT8.out.fr 6;clear hLN)
   go_meet
   case rel=>exact HR.out
  by_cases h3:a.1=kJump
  ·have hg:gv=.func (.func 187) #[] #[]/\gb=true:=by rw [<- HGV.out,<- HGB.out,h3];exact ⟨rfl,rfl⟩
   obtain ⟨hg1,hg2⟩:=hg
   subst hg1 hg2
   have HMI:=hid (instr_kJump (S:=S) (f:=wpos a) (r:=ws.drop k1) h3)
   clear h3
   obtain ⟨t0,t1,t2,t3,t4,t5,t6⟩:=HT7.p7
   have f0:=HT7.fr 0
   have f1:=HT7.fr 1
   have f2:=HT7.fr 2
   have f3:=HT7.fr 3
   have f4:=HT7.fr 4
   have f5:=HT7.fr 5
   have f6:=HT7.fr 6
   go_wp2_with (go_at_call 187;(with_reducible refine (pjump_any HP7.out HW.out HOK.out).mono ?_);rintro e w8 ⟨hb,⟨f1,hm,rfl⟩ | ⟨x,k2,v,hm,hk,rfl,hv,hd,hn⟩⟩;(focus (exact ⟨rfl,HB7.out.trans hb,.inl ⟨f1,by (rw [HME.out,<- HRR.out,HMI.out,<- HFP.out,hm];rfl),rfl⟩⟩));obtain ⟨pa,ca,hvv,hsl⟩:=hv;subst hvv;have HR:=hid (InsR.of HP7.out H30.out HQ5.out HBQ.out HX7.out HT7.out HB7.out HZ7.out hd hn hk HBB.out (by (rw [HMI.out];exact lift_some (by rw [<- HFP.out];exact hm))) hsl);have HT8:=hid (HT7.out.but hn (by have:=HBQ.out;have:=HQ5.out;omega));clear hb hm hk hsl hd hn t0 t1 t2 t3 t4 t5 t6 f0 f1 f2 f3 f4 f5 f6;obtain ⟨LN,hLN⟩:∃ n,x.args.length=n:=⟨_,rfl⟩;rw [hLN] at HR ⊢;obtain ⟨t0,t1,t2,t3,t4,t5,t6⟩:=HT8.out.p7;have f0:=HT8.out.fr 0;have f1:=HT8.out.fr 1;have f2:=HT8.out.fr 2;have f3:=HT8.out.fr 3;have f4:=HT8.out.fr 4;have f5:=HT8.out.fr 5;have f6:=HT8.out.fr 6;clear hLN)
   go_meet
   case rel=>exact HR.out
  by_cases h4:a.1=kIf
  ·have hg:gv=.func (.func 188) #[] #[]/\gb=true:=by rw [<- HGV.out,<- HGB.out,h4];exact ⟨rfl,rfl⟩
   obtain ⟨hg1,hg2⟩:=hg
   subst hg1 hg2
   have HMI:=hid (instr_kIf (S:=S) (f:=wpos a) (r:=ws.drop k1) h4)
   clear h4
   obtain ⟨t0,t1,t2,t3,t4,t5,t6⟩:=HT7.p7
   have f0:=HT7.fr 0
   have f1:=HT7.fr 1
   have f2:=HT7.fr 2
   have f3:=HT7.fr 3
   have f4:=HT7.fr 4
   have f5:=HT7.fr 5
   have f6:=HT7.fr 6
   go_wp2_with (go_at_call 188;(with_reducible refine (pbranch_any HP7.out HW.out HOK.out).mono ?_);rintro e w8 ⟨hb,⟨f1,hm,rfl⟩ | ⟨x,k2,v,hm,hk,rfl,hv,hd,hn⟩⟩;(focus (exact ⟨rfl,HB7.out.trans hb,.inl ⟨f1,by (rw [HME.out,<- HRR.out,HMI.out,<- HFP.out,hm];rfl),rfl⟩⟩));obtain ⟨pa,ca,hvv,hsl⟩:=hv;subst hvv;have HR:=hid (InsR.of HP7.out H30.out HQ5.out HBQ.out HX7.out HT7.out HB7.out HZ7.out hd hn hk HBB.out (by (rw [HMI.out];exact lift_some (by rw [<- HFP.out];exact hm))) hsl);have HT8:=hid (HT7.out.but hn (by have:=HBQ.out;have:=HQ5.out;omega));clear hb hm hk hsl hd hn t0 t1 t2 t3 t4 t5 t6 f0 f1 f2 f3 f4 f5 f6;obtain ⟨LN,hLN⟩:∃ n,x.args.length=n:=⟨_,rfl⟩;rw [hLN] at HR ⊢;obtain ⟨t0,t1,t2,t3,t4,t5,t6⟩:=HT8.out.p7;have f0:=HT8.out.fr 0;have f1:=HT8.out.fr 1;have f2:=HT8.out.fr 2;have f3:=HT8.out.fr 3;have f4:=HT8.out.fr 4;have f5:=HT8.out.fr 5;have f6:=HT8.out.fr 6;clear hLN)
   go_meet
   case rel=>exact HR.out
  by_cases h5:a.1=kHalt
  ·have hg:gv=.func (.func 189) #[] #[]/\gb=true:=by rw [<- HGV.out,<- HGB.out,h5];exact ⟨rfl,rfl⟩
   obtain ⟨hg1,hg2⟩:=hg
   subst hg1 hg2
   have HMI:=hid (instr_kHalt (S:=S) (f:=wpos a) (r:=ws.drop k1) h5)
   clear h5
   obtain ⟨t0,t1,t2,t3,t4,t5,t6⟩:=HT7.p7
   have f0:=HT7.fr 0
   have f1:=HT7.fr 1
   have f2:=HT7.fr 2
   have f3:=HT7.fr 3
   have f4:=HT7.fr 4
   have f5:=HT7.fr 5
   have f6:=HT7.fr 6
   go_wp2_with (go_at_call 189;(with_reducible refine (phalt_any HP7.out).mono ?_);rintro e w8 ⟨hb,⟨f1,hm,rfl⟩ | ⟨x,k2,v,hm,hk,rfl,hv,hd,hn⟩⟩;(focus (exact ⟨rfl,HB7.out.trans hb,.inl ⟨f1,by (cases hm),rfl⟩⟩));obtain ⟨pa,ca,hvv,hsl⟩:=hv;subst hvv;have HR:=hid (InsR.of HP7.out H30.out HQ5.out HBQ.out HX7.out HT7.out HB7.out HZ7.out hd hn hk HBB.out (by (rw [HMI.out];exact lift_some hm)) hsl);have HT8:=hid (HT7.out.but hn (by have:=HBQ.out;have:=HQ5.out;omega));clear hb hm hk hsl hd hn t0 t1 t2 t3 t4 t5 t6 f0 f1 f2 f3 f4 f5 f6;obtain ⟨LN,hLN⟩:∃ n,x.args.length=n:=⟨_,rfl⟩;rw [hLN] at HR ⊢;obtain ⟨t0,t1,t2,t3,t4,t5,t6⟩:=HT8.out.p7;have f0:=HT8.out.fr 0;have f1:=HT8.out.fr 1;have f2:=HT8.out.fr 2;have f3:=HT8.out.fr 3;have f4:=HT8.out.fr 4;have f5:=HT8.out.fr 5;have f6:=HT8.out.fr 6;clear hLN)
   go_meet
   case rel=>exact HR.out
  by_cases h6:a.1=kRet
  ·have hg:gv=.func (.func 190) #[] #[]/\gb=true:=by rw [<- HGV.out,<- HGB.out,h6];exact ⟨rfl,rfl⟩
   obtain ⟨hg1,hg2⟩:=hg
   subst hg1 hg2
   have HMI:=hid (instr_kRet (S:=S) (f:=wpos a) (r:=ws.drop k1) h6)
   clear h6
   obtain ⟨t0,t1,t2,t3,t4,t5,t6⟩:=HT7.p7
   have f0:=HT7.fr 0
   have f1:=HT7.fr 1
   have f2:=HT7.fr 2
   have f3:=HT7.fr 3
   have f4:=HT7.fr 4
   have f5:=HT7.fr 5
   have f6:=HT7.fr 6
   go_wp2_with (go_at_call 190;(with_reducible refine (pret_any HP7.out HW.out HOK.out).mono ?_);rintro e w8 ⟨hb,⟨f1,hm,rfl⟩ | ⟨x,k2,v,hm,hk,rfl,hv,hd,hn⟩⟩;(focus (exact ⟨rfl,HB7.out.trans hb,.inl ⟨f1,by (rw [HME.out,<- HRR.out,HMI.out,<- HFP.out,hm];rfl),rfl⟩⟩));obtain ⟨pa,ca,hvv,hsl⟩:=hv;subst hvv;have HR:=hid (InsR.of HP7.out H30.out HQ5.out HBQ.out HX7.out HT7.out HB7.out HZ7.out hd hn hk HBB.out (by (rw [HMI.out];exact lift_some (by rw [<- HFP.out];exact hm))) hsl);have HT8:=hid (HT7.out.but hn (by have:=HBQ.out;have:=HQ5.out;omega));clear hb hm hk hsl hd hn t0 t1 t2 t3 t4 t5 t6 f0 f1 f2 f3 f4 f5 f6;obtain ⟨LN,hLN⟩:∃ n,x.args.length=n:=⟨_,rfl⟩;rw [hLN] at HR ⊢;obtain ⟨t0,t1,t2,t3,t4,t5,t6⟩:=HT8.out.p7;have f0:=HT8.out.fr 0;have f1:=HT8.out.fr 1;have f2:=HT8.out.fr 2;have f3:=HT8.out.fr 3;have f4:=HT8.out.fr 4;have f5:=HT8.out.fr 5;have f6:=HT8.out.fr 6;clear hLN)
   go_meet
   case rel=>exact HR.out
  have hg:gv=.nilFunc/\gb=false:=by rw [<- HGV.out,<- HGB.out,ins_none h0 h1 h2 h3 h4 h5 h6];exact ⟨rfl,rfl⟩
  obtain ⟨hg1,hg2⟩:=hg
  subst hg1 hg2
  have HLEN:=hid (show a.1.length<=65537 from (HW.each a (next_mem HM.out)).2)
  have HNB:=hid (show ∀ i,i ≠ 30->OB i=O i from fun i hi=>by rw [<- HOB.out,upd_ne O _ hi])
  have hlab:=plabel_any a.1 HLEN.out w7
  cases hlp:labelP a.1 with
  | some s =>
   have HMI:=hid (instr_label (S:=S) (f:=wpos a) (r:=ws.drop k1) h0 h1 h2 h3 h4 h5 h6 hlp)
   rw [hlp] at hlab
   have HLAB:=hid hlab
   clear hlab hlp h0 h1 h2 h3 h4 h5 h6
   obtain ⟨n0,n1,n2⟩:=HX7.p3
   go_upto_region 14 with (go_at_call 149;(with_reducible refine HLAB.out.mono ?_);rintro e w8 ⟨t,rfl,ht,hb⟩;obtain rfl:=(ht _ rfl).symm;have HP8:=hid (HP7.out.below hb);have HX8:=hid (HX7.out.bel hb);have HT8:=hid (HT7.out.bel hb);have HB8:=hid (HB7.out.trans (hb.mono HP7.out.size));clear hb ht n0 n1 n2)
   obtain ⟨bc,hbc⟩:∃ c,S.labels.contains s=c:=⟨_,rfl⟩
   have HBC:=hid hbc
   clear hbc
   obtain ⟨pl,cl,hO9⟩:=HP8.rs.lb.slc
   have HO9:=hid hO9
   have HL8:=hid (show SlG kStr (fun i=>i<w8.heap.size/\i ≠ b) w8.drew (.slice pl S.labels.length cl) S.labels from by rw [<- hO9];exact HP8.rs.lb.slb (by have:=HOK.lb;omega) (HP8.own 9))
   have hS:(fun W=>W.cell? ⟨b,9,none⟩=some (.slice pl S.labels.length cl)/\W.cell? ⟨q,1,none⟩=some (.int .i64 (a.2.1:Int))/\W.cell? ⟨q,2,none⟩=some (.int .i64 (a.2.2:Int))) w8.drew:=⟨by rw [<- hO9];exact HP8.rd.box.at 9 rfl,HX8.at 1 rfl,HX8.at 2 rfl⟩
   clear hO9
   have hFa:=fT
   refine rgP (fun _ _ _ h=>h) (fun W=>W.cell? ⟨b,9,none⟩=some (.slice pl S.labels.length cl)/\W.cell? ⟨q,1,none⟩=some (.int .i64 (a.2.1:Int))/\W.cell? ⟨q,2,none⟩=some (.int .i64 (a.2.2:Int))) 10 (by kernel_rfl) ?_
   simp only [zP,Nat.reduceAdd]
   iterate 5 (refine nxW (v:=?_) 10 hS ?_ ?_;rotate_left;(focus rintro w' ⟨s0,s1,s2⟩;go_simp;try rfl);simp only [aP])
   iterate 2 (refine nxW (v:=?_) 12 hS ?_ ?_;rotate_left;(focus rintro w' ⟨s0,s1,s2⟩;go_simp;try rfl);simp only [aP])
   refine oy 5 fun K hK=>?_
   go_simp
   (with_reducible refine (callsIn_wide.2 (contains_any S.labels s _ _ _ HL8.out)).mono ?_)
   rintro e w4 ⟨rfl,rfl⟩
   rw [HBC.out]
   refine hK _ _ (.inr (.inr hS)) ?_
   clear hK K
   (refine nxW (v:=?_) 8 hS ?_ ?_;rotate_left;(focus rintro w' ⟨s0,s1,s2⟩;go_simp;try rfl);simp only [aP])
   refine oy 9 fun K hK=>?_
   go_simp
   (with_reducible refine (callsIn_wide.2 (pneed_any _ ((a.2.1:Int),(a.2.2:Int)) _ _)).mono ?_)
   rintro e w9 ⟨hb,⟨hc,rfl⟩ | ⟨hc,rfl⟩⟩
   rotate_left
   ·exact ⟨rfl,HB8.drew.trans (hb.mono HP8.size),.inl ⟨_,by (rw [HME.out,<- HRR.out,HMI.out,HBC.out,if_pos (by simpa using hc)];rfl),rfl⟩⟩
   have HBF:=hid (show bc=false from by simpa using hc)
   have HP9:=hid (HP8.dr.below hb)
   have HX9:=hid ((HX8.bel (Below.refl _ _).drew).bel hb)
   have HT9:=hid ((HT8.bel (Below.refl _ _).drew).bel hb)
   have HB9:=hid (HB8.drew.trans (hb.mono HP8.size))
   have hS9:(fun W=>W.cell? ⟨b,9,none⟩=some (.slice pl S.labels.length cl)/\W.cell? ⟨q,1,none⟩=some (.int .i64 (a.2.1:Int))/\W.cell? ⟨q,2,none⟩=some (.int .i64 (a.2.2:Int))) w9:=⟨by rw [<- HO9.out];exact HP9.rd.box.at 9 rfl,HX9.at 1 rfl,HX9.at 2 rfl⟩
   clear hb hc hS
   refine hK _ _ (.inr (.inr hS9)) (dN ?_)
   clear hK K
   simp only [onlyP,Exit.then]
   clear hFa
   clear hS9
   obtain ⟨LL,hLL⟩:∃ n,S.labels.length=n:=⟨_,rfl⟩
   have c9:=HP9.rd.box.at 9 rfl
   have f9:=HP9.rd.box.fr 9
   rw [HO9.out,hLL] at c9
   have HLL:=hid hLL
   clear hLL
   have a9:∀ c t,(w9.alloc (.cells c t)).cell? ⟨b,9,none⟩=some (.slice pl LL cl):=fun c t=>by rw [cell_al,if_neg (by have:=HP9.lt;show b ≠ _;omega)];exact c9
   go_upto_region 16 with (at_builtin;refine wpList_pushB (v := .slice pl LL cl) (l:=S.labels) (K:=kStr) (R:=fun _=>False) (x:=s) (cs:=[.string ⟨s.toArray⟩]) (te:=9) (B:=b) rfl _ _ 22 rfl Tryz.underlying22 _ 16 info_str rfl (by have h:=HP9.out.rs.lb;rw [HO9.out,HLL.out] at h;exact (h.str (R':=fun _=>False)).keep (fun i hi=>hi.elim) (fun i hi=>by rw [heap_al,if_neg (by have:=(h.lt i hi).2;omega)])) (fun i hi=>hi.elim) rfl (BxL.new _ w9 _) rfl rfl (by have:=HOK.out.lb;omega) (by have:=HOK.out.lb;unfold maxLen;omega) (by rw [sA];have:=HP9.out.lt;omega) ?_;intro v9 w10 hg10 hgr hmv;obtain ⟨p9,c9',hv9⟩:=hg10.slc;obtain ⟨L9,hL9⟩:∃ n,(S.labels++[s]).length=n:=⟨_,rfl⟩;rw [hL9] at hv9;subst hv9;clear hL9;rw [<- HLL.out,<- HO9.out] at hgr hmv;have hbx:=(HP9.out.rd.box.bel ((Below.refl _ _).alloc lrf (.cells #[.string ⟨s.toArray⟩] 9))).keep (hgr.block b (by rw [sA];have:=HP9.out.lt;omega) (fun e=>HP9.out.own 9 e.symm));have c10:=hbx.at 9 rfl;have f10:=hbx.fr 9;rw [HO9.out,HLL.out] at c10;clear hbx;have HG10:=hid hg10;have HGR:=hid hgr;have HMV:=hid hmv;clear hg10 hgr hmv)
   clear c9 f9 a9 c10 f10
   have hz9:Below w9.heap.size w9 (w9.alloc (.cells #[.string ⟨s.toArray⟩] 9)):=bA
   obtain ⟨hp11,hs11,hm11⟩:=HP9.grow9 hz9 HGR.out HMV.out HG10.out
   generalize hw:World.setCell _ _ _=w11 at hp11 hs11 hm11 ⊢
   have hq9:(OB 9).ownBlock ≠ some q4:=HP9.rs.ow.ne 30 9 q4 (by decide) H30.out
   have hqq:(OB 9).ownBlock ≠ some q:=by rw [HNB.out 9 (by decide)];intro e;have:=(HPM.rs.ow.lt 9 q e).2;have:=HQ.out;omega
   have HT11:=hid (HT9.keep (hs11.block q4 HT9.lt (by have:=HBQ.out;have:=HQ5.out;omega) hq9))
   have HX11:=hid (HX9.keep (hs11.block q HX9.lt (by have:=HBQ.out;omega) hqq))
   have HB11:=hid (HB9.trans (hs11.below HP9.rs.ow HBB.out HP9.size))
   have HR:=hid (InsR.lab (x:={ in0 with kind:=10,nm:=s }) HP9.out H30.out HQ5.out HBQ.out HX11.out HT11.out HB11.out hp11 (by (rw [HMI.out,HBC.out,HBF.out];rfl)) rfl HBB.out)
   clear hw hz9 hp11 hs11 hm11 hq9 hqq
   obtain ⟨t0,t1,t2,t3,t4,t5,t6⟩:=HT11.p7
   have f0:=HT11.fr 0
   have f1:=HT11.fr 1
   have f2:=HT11.fr 2
   have f3:=HT11.fr 3
   have f4:=HT11.fr 4
   have f5:=HT11.fr 5
   have f6:=HT11.fr 6
   go_wp2_with fail
   go_meet
   case rel=>exact HR.out
  | none =>
   have HMI:=hid (instr_assign (S:=S) (f:=wpos a) (r:=ws.drop k1) h0 h1 h2 h3 h4 h5 h6 hlp)
   rw [hlp] at hlab
   have HLAB:=hid hlab
   clear hlab hlp h0 h1 h2 h3 h4 h5 h6
   obtain ⟨n0,n1,n2⟩:=HX7.p3
   go_upto_region 17 with (go_at_call 149;(with_reducible refine HLAB.out.mono ?_);rintro e w8 ⟨t,rfl,ht,hb⟩;have HP8:=hid (HP7.out.below hb);have HX8:=hid (HX7.out.bel hb);have HT8:=hid (HT7.out.bel hb);have HB8:=hid (HB7.out.trans (hb.mono HP7.out.size));clear hb ht n0 n1 n2)
   have hS:(fun W=>W.cell? ⟨q,0,none⟩=some (.string ⟨a.1.toArray⟩)/\W.cell? ⟨q,1,none⟩=some (.int .i64 (a.2.1:Int))/\W.cell? ⟨q,2,none⟩=some (.int .i64 (a.2.2:Int))) w8.drew:=HX8.p3
   have hFa:=fT
   refine rgP (fun _ _ _ h=>h) (fun W=>W.cell? ⟨q,0,none⟩=some (.string ⟨a.1.toArray⟩)/\W.cell? ⟨q,1,none⟩=some (.int .i64 (a.2.1:Int))/\W.cell? ⟨q,2,none⟩=some (.int .i64 (a.2.2:Int))) 6 (by kernel_rfl) ?_
   simp only [zP,Nat.reduceAdd]
   iterate 2 (refine nxW (v:=?_) 6 hS ?_ ?_;rotate_left;(focus rintro w' ⟨s0,s1,s2⟩;go_simp;try rfl);simp only [aP])
   iterate 2 (refine nxW (v:=?_) 7 hS ?_ ?_;rotate_left;(focus rintro w' ⟨s0,s1,s2⟩;go_simp;try rfl);simp only [aP])
   refine oy 2 fun K hK=>?_
   go_simp
   (with_reducible refine (callsIn_wide.2 (pnamed_any a.1 _)).mono ?_)
   rintro e w9 ⟨rfl,hb⟩
   have HP9:=hid (HP8.dr.below hb)
   have HX9:=hid ((HX8.bel (Below.refl _ _).drew).bel hb)
   have HT9:=hid ((HT8.bel (Below.refl _ _).drew).bel hb)
   have HB9:=hid (HB8.drew.trans (hb.mono HP8.size))
   have hS9:(fun W=>W.cell? ⟨q,0,none⟩=some (.string ⟨a.1.toArray⟩)/\W.cell? ⟨q,1,none⟩=some (.int .i64 (a.2.1:Int))/\W.cell? ⟨q,2,none⟩=some (.int .i64 (a.2.2:Int))) w9:=HX9.p3
   clear hb hS
   refine hK _ _ (.inr (.inr hS9)) ?_
   clear hK K
   refine oy 5 fun K hK=>?_
   go_simp
   (with_reducible refine (callsIn_wide.2 (pneed_any _ ((a.2.1:Int),(a.2.2:Int)) _ _)).mono ?_)
   rintro e w10 ⟨hb,⟨hc,rfl⟩ | ⟨hc,rfl⟩⟩
   rotate_left
   ·exact ⟨rfl,HB9.trans (hb.mono HP9.size),.inl ⟨_,by (rw [HME.out,<- HRR.out,HMI.out,if_neg (by rw [hc];simp)];rfl),rfl⟩⟩
   have HNM:=hid hc
   have HP10:=hid (HP9.below hb)
   have HX10:=hid (HX9.bel hb)
   have HT10:=hid (HT9.bel hb)
   have HB10:=hid (HB9.trans (hb.mono HP9.size))
   have hS10:(fun W=>W.cell? ⟨q,0,none⟩=some (.string ⟨a.1.toArray⟩)/\W.cell? ⟨q,1,none⟩=some (.int .i64 (a.2.1:Int))/\W.cell? ⟨q,2,none⟩=some (.int .i64 (a.2.2:Int))) w10:=HX10.p3
   clear hb hc hS9
   refine hK _ _ (.inr (.inr hS10)) (dN ?_)
   clear hK K
   simp only [onlyP,Exit.then]
   clear hFa
   clear hS10
   have HAS:=hid (passign_any a.1 HP10.out HW.out HOK.out)
   obtain ⟨n0,n1,n2⟩:=HX10.p3
   go_wp2_with (go_at_call 152;(with_reducible refine HAS.out.mono ?_);rintro e w11 ⟨hb,⟨f1,hm,rfl⟩ | ⟨x,k2,v10,sites,v,hm,hsi,rfl,hv,hps,hst,hmv⟩⟩;(focus (exact ⟨rfl,HB10.out.trans hb,.inl ⟨f1,by (rw [HME.out,<- HRR.out,HMI.out,if_pos HNM.out,<- HFP.out,hm];rfl),rfl⟩⟩));obtain ⟨pa,ca,hvv,hsl⟩:=hv;subst hvv;have HR:=hid (InsR.asg HP10.out H30.out HQ5.out HBQ.out HX10.out HT10.out (HB10.out.trans hb) HP10.out.size hps hst (by rw [HNB.out 10 (by decide)];intro e;have:=(HPM.out.rs.ow.lt 10 q e).2;have:=HQ.out;omega) HBB.out (by (rw [HMI.out,if_pos HNM.out,<- HFP.out,hm];rfl)) hsl);have HT11:=hid (HT10.out.keep (hst.block _ HT10.out.lt (by have:=HBQ.out;have:=HQ5.out;omega) (HP10.out.rs.ow.ne 30 10 _ (by decide) H30.out)));clear hb hm hsl hps hst hmv hsi n0 n1 n2;obtain ⟨LN,hLN⟩:∃ n,x.args.length=n:=⟨_,rfl⟩;rw [hLN] at HR ⊢;obtain ⟨t0,t1,t2,t3,t4,t5,t6⟩:=HT11.out.p7;have f0:=HT11.out.fr 0;have f1:=HT11.out.fr 1;have f2:=HT11.out.fr 2;have f3:=HT11.out.fr 3;have f4:=HT11.out.fr 4;have f5:=HT11.out.fr 5;have f6:=HT11.out.fr 6;clear hLN)
   go_meet
   case rel=>exact HR.out
 case rest =>
  obtain ⟨x,lb,st,k2,v9,v10,pa,ca,hm,hpm,hbx,hsl,hbw,hbl⟩:=hcut
  obtain ⟨O2,hO2⟩:∃ o,upd (upd OB 9 v9) 10 v10=o:=⟨_,rfl⟩
  obtain ⟨S2,hS2⟩:∃ s,({ S with labels:=lb,sites:=st }:PS)=s:=⟨_,rfl⟩
  rw [hO2,hS2] at hpm
  have HMI:=hid hm;have HPC:=hid hpm;have HBC:=hid hbl;have HXC:=hid hbw;have HTC:=hid hbx
  have HOI:=hid (show ∀ i,i ≠ 9->i ≠ 10->i ≠ 30->O2 i=O i from fun i h1 h2 h3=>by rw [<- hO2,upd_ne _ _ h2,upd_ne _ _ h1,<- HOB.out,upd_ne _ _ h3])
  have H302:=hid (show (O2 30).ownBlock=some q4 from by rw [<- hO2,upd_ne _ _ (by decide),upd_ne _ _ (by decide)];exact H30.out)
  have HINN:=hid (show S2.inn=S.inn from by rw [<- hS2])
  have HCD:=hid (show codeP S2=codeP S from by rw [<- hS2];rfl)
  have HCS:=hid (show cslot S2=cslot S from by rw [<- hS2];rfl)
  have HCP:=hid (show CPtr b O2 S2 ⟨pb,po,none⟩ from by
   have h:=HC.out
   unfold CPtr at h ⊢
   rw [HOI.out 3 (by decide) (by decide) (by decide),<- hS2]
   exact h)
  have hfin:∀ W:World,wc.heap.size<=W.heap.size->∀ i,(q4<i/\i<wc.heap.size/\v9.ownBlock ≠ some i/\v10.ownBlock ≠ some i)->Fin' b O2 W i:=fun W hW i hi=>⟨by omega,by have:=HBQ.out;have:=HQ5.out;omega,fun j e=>by
   by_cases h10:j=10
   ·subst h10;rw [<- hO2,upd_eq] at e;exact hi.2.2.2 e
   by_cases h9:j=9
   ·subst h9;rw [<- hO2,upd_ne _ _ (by decide),upd_eq] at e;exact hi.2.2.1 e
   by_cases h3:j=30
   ·subst h3;rw [H302.out] at e;cases e;omega
   ·rw [HOI.out j h9 h10 h3] at e;have:=(HPM.rs.ow.lt j i e).2;have:=HW5.out;omega⟩
  have HSL:=hid hsl;have HFIN:=hid hfin
  have HSS:=hid hS2
  clear hm hpm hbl hbw hbx hsl hfin hO2 hS2
  go_upto_region 20 with (go_at_call 146;(with_reducible refine (pend_any HPC.out.rd HPC.out.le HW.out HBB.out).mono ?_);rintro e w12 ⟨hb,⟨f1,hm,rfl⟩ | ⟨hm,hnil,rfl,hd,hn⟩⟩;(focus (exact ⟨rfl,HBC.out.trans hb,.inl ⟨f1,by (rw [HME.out,<- HRR.out,HMI.out];unfold ins2;dsimp only;rw [hm]),rfl⟩⟩));have HP12:=hid (HPC.out.read hd hn HPC.out.le);have HX12:=hid (HXC.out.but hn (by have:=HBQ.out;omega));have HT12:=hid (HTC.out.but hn (by have:=HBQ.out;have:=HQ5.out;omega));have HB12:=hid (HBC.out.trans hb);have HN12:=hid hn;have HME2:=hid hm;clear hb hm hnil hd hn)
  obtain ⟨n0,n1,n2⟩:=HX12.p3
  have t5:=HT12.at 5 rfl
  have t6:=HT12.at 6 rfl
  have f5:=HT12.fr 5
  have f6:=HT12.fr 6
  go_upto_region 21 with fail
  generalize hw:World.setCell _ _ _=w13
  have HP13:=hid (show Pm B b O2 pw cw ws S2 k2 w13 from by rw [<- hw];exact (HP12.poke H302.out _).poke H302.out _)
  have HT13:=hid (show BxL 41 q4 (inL { x with pos:=wpos a } (.slice pa x.args.length ca)) w13 from by rw [<- hw];exact (HT12.set 5 _).set 6 _)
  have HN13:=hid (show But (fun i=>i=b\/i=q4) wc w13 from by rw [<- hw];exact (((HN12.mono fun i h => .inl h).setC _ (.inl (.inr rfl))).setC _ (.inl (.inr rfl))))
  have HB13:=hid (show Below B w w13 from HBC.trans (HN13.below HPC.size fun i h=>by rcases h with h | h;exact h ▸ HBB.out;have:=HBB.out;have:=HBQ.out;have:=HQ5.out;omega))
  clear hw n0 n1 n2 t5 t6 f5 f6
  obtain ⟨hcp,hfp,hgc⟩:=HP13.codeAt HCP.out
  obtain ⟨pv2,cv2,hO⟩:=hgc.slc
  rw [HCD.out,HLC.out] at hO
  rw [hO] at hcp
  have HO2:=hid hO
  obtain ⟨LN,hLN⟩:∃ n,x.args.length=n:=⟨_,rfl⟩
  have ht13:=HT13.out
  rw [hLN] at ht13
  have HTN:=hid ht13
  have hS:(fun W=>W.cell? ⟨pb,po,none⟩=some (.slice pv2 LC cv2)/\W.cell? ⟨q4,0,none⟩=some (.int .u8 (x.kind:Int))/\W.cell? ⟨q4,1,none⟩=some (.int .u8 (x.op:Int))/\W.cell? ⟨q4,2,none⟩=some (.string ⟨x.dst.toArray⟩)/\W.cell? ⟨q4,3,none⟩=some (.string ⟨x.nm.toArray⟩)/\W.cell? ⟨q4,4,none⟩=some (.slice pa LN ca)/\W.cell? ⟨q4,5,none⟩=some (.int .i64 (a.2.1:Int))/\W.cell? ⟨q4,6,none⟩=some (.int .i64 (a.2.2:Int))) w13.drew:=⟨hcp,ht13.at 0 rfl,ht13.at 1 rfl,ht13.at 2 rfl,ht13.at 3 rfl,ht13.at 4 rfl,ht13.at 5 rfl,ht13.at 6 rfl⟩
  have HLN:=hid hLN
  clear hcp hfp hgc hO hLN ht13
  have hFa:=fT
  refine rgN (fun W=>W.cell? ⟨pb,po,none⟩=some (.slice pv2 LC cv2)/\W.cell? ⟨q4,0,none⟩=some (.int .u8 (x.kind:Int))/\W.cell? ⟨q4,1,none⟩=some (.int .u8 (x.op:Int))/\W.cell? ⟨q4,2,none⟩=some (.string ⟨x.dst.toArray⟩)/\W.cell? ⟨q4,3,none⟩=some (.string ⟨x.nm.toArray⟩)/\W.cell? ⟨q4,4,none⟩=some (.slice pa LN ca)/\W.cell? ⟨q4,5,none⟩=some (.int .i64 (a.2.1:Int))/\W.cell? ⟨q4,6,none⟩=some (.int .i64 (a.2.2:Int))) 8 (by kernel_rfl) ?_
  simp only [zP,Nat.reduceAdd]
  iterate 5 (refine nxW (v:=?_) 9 hS ?_ ?_;rotate_left;(focus rintro w' ⟨s0,s1,s2,s3,s4,s5,s6,s7⟩;go_simp;try rfl);simp only [aP])
  refine oy 5 fun K hK=>?_
  go_simp
  first | generalize hw:World.drew (World.alloc _ _)=w14 | generalize hw:World.alloc _ _=w14
  have HB14:=hid (show Below w13.heap.size w13 w14 from by rw [<- hw];first | exact (bA).drew | exact (bA))
  have HY14:=hid (show BxL 41 w13.heap.size [.int .u8 (x.kind:Int),.int .u8 (x.op:Int),.string ⟨x.dst.toArray⟩,.string ⟨x.nm.toArray⟩,.slice pa LN ca,.int .i64 (a.2.1:Int),.int .i64 (a.2.2:Int)] w14 from by rw [<- hw];first | exact (BxL.new _ _ _).bel (Below.refl _ _).drew | exact BxL.new _ _ _)
  have HP14:=hid (HP13.below HB14.out)
  have HT14:=hid (HTN.bel HB14.out)
  obtain ⟨hcp,hfp,hgc⟩:=HP14.codeAt HCP.out
  rw [HO2.out] at hcp
  have hS14:(fun W=>W.cell? ⟨pb,po,none⟩=some (.slice pv2 LC cv2)/\W.cell? ⟨q4,0,none⟩=some (.int .u8 (x.kind:Int))/\W.cell? ⟨q4,1,none⟩=some (.int .u8 (x.op:Int))/\W.cell? ⟨q4,2,none⟩=some (.string ⟨x.dst.toArray⟩)/\W.cell? ⟨q4,3,none⟩=some (.string ⟨x.nm.toArray⟩)/\W.cell? ⟨q4,4,none⟩=some (.slice pa LN ca)/\W.cell? ⟨q4,5,none⟩=some (.int .i64 (a.2.1:Int))/\W.cell? ⟨q4,6,none⟩=some (.int .i64 (a.2.2:Int))) w14:=⟨hcp,HT14.at 0 rfl,HT14.at 1 rfl,HT14.at 2 rfl,HT14.at 3 rfl,HT14.at 4 rfl,HT14.at 5 rfl,HT14.at 6 rfl⟩
  have HGC:=hid hgc
  have HCF:=hid hfp
  clear hw hS hcp hfp hgc
  refine hK _ _ (.inr (.inr hS14)) ?_
  clear hK K
  refine oy 6 fun K hK=>?_
  refine wpIn_pushB (R:=Fin' b O2 w14) (B:=b) (K:=kIn) (v := .slice pv2 LC cv2) (l:=codeP S2) (x:={ x with pos:=wpos a }) (cs:=[.int .u8 (x.kind:Int),.int .u8 (x.op:Int),.string ⟨x.dst.toArray⟩,.string ⟨x.nm.toArray⟩,.slice pa LN ca,.int .i64 (a.2.1:Int),.int .i64 (a.2.2:Int)]) (te:=41) hFa (.tmp 95) (.tmp 97) 25 rfl Tryz.underlying25 _ 80 info_inP rfl (by have h:=HGC.out;rw [HO2.out] at h;exact h) (fun i hi=>⟨hi.1,by rw [<- HO2.out];exact hi.2.2 _⟩) ⟨.slice pa LN ca,rfl,by rw [<- HLN.out];exact HSL.keep fun i hi=>⟨HFIN.out w14 (Nat.le_trans HN13.size HB14.size) i hi,(HB14.block i (Nat.lt_of_lt_of_le hi.2.1 HN13.size)).trans (HN13.block i hi.2.1 fun e=>by rcases e with e | e;have:=HBQ.out;have:=HQ5.out;omega;omega)⟩⟩ HY14.out (by rfl) (by rfl) (by rw [HCD.out,HLC.out];have:=HLT.out;omega) (by rw [HCD.out,HLC.out];have:=HLT.out;unfold maxLen;omega) (Nat.le_of_lt HP14.lt) ?_
  intro v' w15 hg15 hgr hm15
  obtain ⟨p9,c9,hv9⟩:=hg15.slc
  obtain ⟨n9,hn9⟩:∃ n,(codeP S2++[({ x with pos:=wpos a }:In)]).length=n:=⟨_,rfl⟩
  rw [hn9] at hv9
  subst hv9
  clear hn9
  rw [<- HO2.out] at hgr hm15
  have hpf:=HP13.codePut HCP.out HB14.out hgr hm15 hg15
  have HPF:=hid hpf
  have hne:=HCP.ne HP14.rs.ow
  have hpbl:=cell_size hS14.1
  have c15:w15.cell? ⟨pb,po,none⟩=some (.slice pv2 LC cv2):=by rw [cell_same (hgr.block pb hpbl fun e=>hne e.symm)];exact hS14.1
  have hT15:=HT14.keep (hgr.block q4 HT14.lt fun e=>HP14.rs.ow.ne 30 (cslot S2) q4 (cslot_ne S2) H302.out e.symm)
  have hS15:(fun W=>W.cell? ⟨pb,po,none⟩=some (.slice pv2 LC cv2)/\W.cell? ⟨q4,0,none⟩=some (.int .u8 (x.kind:Int))/\W.cell? ⟨q4,1,none⟩=some (.int .u8 (x.op:Int))/\W.cell? ⟨q4,2,none⟩=some (.string ⟨x.dst.toArray⟩)/\W.cell? ⟨q4,3,none⟩=some (.string ⟨x.nm.toArray⟩)/\W.cell? ⟨q4,4,none⟩=some (.slice pa LN ca)/\W.cell? ⟨q4,5,none⟩=some (.int .i64 (a.2.1:Int))/\W.cell? ⟨q4,6,none⟩=some (.int .i64 (a.2.2:Int))) w15:=⟨c15,hT15.at 0 rfl,hT15.at 1 rfl,hT15.at 2 rfl,hT15.at 3 rfl,hT15.at 4 rfl,hT15.at 5 rfl,hT15.at 6 rfl⟩
  have f15:w15.frozen? ⟨pb,po,none⟩=false:=by rw [froz_same (hgr.block pb hpbl fun e=>hne e.symm)];exact HCF.out
  have hb15:Below B w w15:=HB13.trans (Below.trans (HB14.mono HP13.size) ⟨hgr.os,hgr.tape,hgr.output,hgr.size,fun i hi=>hgr.block i (Nat.lt_of_lt_of_le hi HP14.size) fun e=>by have:=(HP14.rs.ow.lt _ i e.symm).1;have:=HBB.out;omega⟩)
  have HBF:=hid (show Below B w (w15.setCell ⟨pb,po,none⟩ (.slice p9 n9 c9)) from hb15.setCell (p:=⟨pb,po,none⟩) (HCP.ge HP14.rs.ow HBB.out) _)
  have HMF:=hid (show instructP S a r=.ok { S2 with p:=putCode S2 (codeP S2++[{ x with pos:=wpos a }]) } from by rw [HME.out,<- HRR.out,HMI.out];unfold ins2;dsimp only;rw [HME2.out,<- HSS.out];rfl)
  clear hg15 hgr hm15 hpf hne hpbl hb15 hS14 hT15
  refine hK _ _ (.inr (.inr hS15)) ?_
  clear hK K
  (refine nxW (v:=?_) 9 hS15 ?_ ?_;rotate_left;(focus rintro w' ⟨s0,s1,s2,s3,s4,s5,s6,s7⟩;go_simp;try rfl);simp only [aP])
  refine oy 8 fun K hK=>?_
  go_simp
  refine hK _ _ (.inl rfl) (dN ?_)
  clear hK K
  simp only [onlyN,Exit.then]
  clear hFa
  generalize hw:World.setCell _ _ _=wf at HPF HBF ⊢
  go_wp2_with fail
  first | go_end0 | refine bodyPost_ret (results_none rfl _ _ _) rfl ?_
  exact ⟨HBF.out,.inr ⟨_,_,k2,HMF.out,rfl,HPF.out⟩⟩
end Go.Proofs.YtoofbgoeipijcaaGreatDoor
