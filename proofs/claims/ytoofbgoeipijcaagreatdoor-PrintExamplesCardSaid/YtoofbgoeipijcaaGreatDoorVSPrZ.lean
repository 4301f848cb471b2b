/-
 A part.
-/
import Derived.Test.YtoofbgoeipijcaaGreatDoorVSPrX
import Derived.Test.YtoofbgoeipijcaaGreatDoorVSPrY
import Derived.Test.YtoofbgoeipijcaaGreatDoorVSPrV
namespace Go.Proofs.YtoofbgoeipijcaaGreatDoor
set_option maxRecDepth 100000
set_option maxHeartbeats 4000000
set_option linter.all false
open Go.RowKit Go.Shelf
attribute [local go_sem] Oper.semAt_some
theorem SlG.box {α:Type} {K:EK α} {R:Nat->Prop} {w:World} {b:Nat} {t:TypeId} {cs:List Value} {x:α} (hb:BxL t b cs w) (hx:K.E R w cs x) (hR:R b):SlG K R w (.slice (some ⟨b,0,none⟩) 1 1) [x]:=by
 refine ⟨[cs],⟨rfl,fun i hi hi'=>?_⟩,_,1,rfl,Nat.le_refl _,by unfold maxLen;omega,by simp,.inr ⟨b,0,rfl,hR,fun j hj=>?_⟩⟩
 ·obtain rfl:i=0:=by simp at hi;omega
  exact hx
 ·rw [Nat.zero_add]
  have hj':j<cs.length:=by simpa using hj
  have:=hb.at j (List.getElem?_eq_getElem hj')
  rw [this]
  simp
theorem alone_ok (x:In) (h:x.kind<=255/\x.op<=255):PgOk (aloneP x):=by
 refine ⟨fun f hf y hy=>?_,fun y hy=>by simp [aloneP] at hy⟩
 unfold aloneP at hf
 simp only at hf
 split at hf
 ·rcases List.mem_cons.1 hf with rfl | hf
  ·rw [List.mem_singleton.1 hy];exact h
  ·rw [List.mem_singleton.1 hf] at hy;cases hy
 ·rw [List.mem_singleton.1 hf] at hy
  rw [List.mem_singleton.1 hy];exact h
theorem alone_fun (x:In) (v:Value) (bi bf:Nat) (W:World) (hk:x.kind ≠ 4) (hs:SlG kAg (·<W.heap.size) W v x.args) (hi:BxL 41 bi (inL { x with pos:=(1,1) } v) W) (hf:BxL 74 bf [.string ⟨#[102]⟩,.slice none 0 0,.slice (some ⟨bi,0,none⟩) 1 1,.int .i64 0,.int .i64 0] W):SlG kFu (·<W.heap.size) W (.slice (some ⟨bf,0,none⟩) 1 1) [aloneF x]:=by
 refine SlG.box hf ?_ hf.lt
 unfold aloneF
 rw [if_neg (by omega)]
 exact ⟨_,_,rfl,SlG.nil,SlG.box hi ⟨v,rfl,hs⟩ hi.lt⟩
theorem instr_A (x:In) (v:Value) (w:World) (hkd:x.kind ≠ 2/\x.kind ≠ 3/\x.kind ≠ 4/\x.kind ≠ 5/\x.kind ≠ 6) (h8:x.kind<=255/\x.op<=255) (hn:∀ a ∈ x.args,a.num<18446744073709551616) (h:SlG kAg (·<w.heap.size) w v x.args) (hE:PrE w) :
  Calls Tryz.prog 61 #[.agg #[.int .u8 (x.kind:Int),.int .u8 (x.op:Int),.string ⟨x.dst.toArray⟩,.string ⟨x.nm.toArray⟩,v,.int .i64 x.pos.1,.int .i64 x.pos.2]] w fun e w'=>e=.returned (.tuple #[.string ⟨(instrM x).1.toArray⟩,.int .i64 (instrM x).2])/\Below w.heap.size w w':=by
 obtain ⟨pa,ca,rfl⟩:=h.slc
 have HSL:=hid h;have HE:=hid hE;have HNU:=hid hn;have H8:=hid h8;have HKD:=hid hkd
 have t2:((x.kind:Int) == 2)=false:=by simp;omega
 have t3:((x.kind:Int) == 3)=false:=by simp;omega
 have t4:((x.kind:Int) == 4)=false:=by simp;omega
 have t5:((x.kind:Int) == 5)=false:=by simp;omega
 have t6:((x.kind:Int) == 6)=false:=by simp;omega
 clear h hE hn h8 hkd
 go_enter Tryz.func61,Tryz.ntmps61
 go_upto_region 1 with fail
 obtain ⟨wo,hwo⟩:∃ W,w.alloc (.cells #[.int .u8 (x.kind:Int),.int .u8 (x.op:Int),.string ⟨x.dst.toArray⟩,.string ⟨x.nm.toArray⟩,.slice pa x.args.length ca,.int .i64 x.pos.1,.int .i64 x.pos.2] 41)=W:=⟨_,rfl⟩
 have HX0:=hid (show BxL 41 w.heap.size (inL x (.slice pa x.args.length ca)) wo from by rw [<- hwo];exact BxL.new _ _ _)
 have HB0:=hid (show Below w.heap.size w wo from by rw [<- hwo];exact bA)
 rw [hwo]
 clear hwo
 obtain ⟨n0,n1,n2,n3,n4,n5,n6⟩:=HX0.p7
 have HSO:=hid (HSL.below HB0.out)
 go_upto_region 3 with (go_at_call 95;(refine (alone_any x _ _ HSO.out).mono ?_);rintro e w1 ⟨bi,bf,hi1,hf1,hne,rfl,hbi,hbf,hb1⟩;have HI1:=hid hbi;have HF1:=hid hbf;have HB1:=hid (HB0.out.trans (hb1.mono HB0.out.size));have HX1:=hid (HX0.out.bel hb1);have HGE:=hid (And.intro hi1 (And.intro hf1 hne));have q0:∀ o,(w1.alloc o).cell? ⟨w.heap.size,0,none⟩=some (.int .u8 (x.kind:Int)):=fun o=>(HX1.out.al o).at 0 rfl;clear hi1 hf1 hne hbi hbf hb1)
 clear n0 n1 n2 n3 n4 n5 n6 q0
 obtain ⟨b4,hb4⟩:∃ b,w1.heap.size=b:=⟨_,rfl⟩
 have HBF:=hid (show bf<b4/\bi<b4/\w.heap.size<b4 from ⟨by rw [<- hb4];exact HF1.lt,by rw [<- hb4];exact HI1.lt,by rw [<- hb4];exact HX1.lt⟩)
 obtain ⟨w2,hw2⟩:∃ W,w1.alloc (.cells #[.int .i64 1,.slice none 0 0,.slice none 0 0,.slice (some ⟨bf,0,none⟩) 1 1,.slice none 0 0] 27)=W:=⟨_,rfl⟩
 have HB2:=hid (show Below w.heap.size w w2 from by rw [<- hw2];exact HB1.alloc HB1.size _)
 have HX2:=hid (show BxL 41 w.heap.size (inL x (.slice pa x.args.length ca)) w2 from by rw [<- hw2];exact HX1.al _)
 have HI2:=hid (show BxL 41 bi (inL { x with pos:=(1,1) } (.slice pa x.args.length ca)) w2 from by rw [<- hw2];exact HI1.al _)
 have HF2:=hid (show BxL 74 bf [.string ⟨#[102]⟩,.slice none 0 0,.slice (some ⟨bi,0,none⟩) 1 1,.int .i64 0,.int .i64 0] w2 from by rw [<- hw2];exact HF1.al _)
 have HP2:=hid (show BxL 27 b4 [.int .i64 1,.slice none 0 0,.slice none 0 0,.slice (some ⟨bf,0,none⟩) 1 1,.slice none 0 0] w2 from by rw [<- hw2,<- hb4];exact BxL.new _ _ _)
 have HS4:=hid (show w2.heap.size=b4+1 from by rw [<- hw2,<- hb4,sA])
 rw [hw2,hb4]
 clear hw2 hb4
 have HEW:=hid (HE.below HB2.out)
 have HBW:=hid HB2.out;have HXW:=hid HX2.out;have HPB:=hid HP2.out
 have HPG:=hid (show PgV (·<w2.heap.size) w2 (.slice none 0 0) (.slice none 0 0) (.slice (some ⟨bf,0,none⟩) 1 1) (.slice none 0 0) (aloneP x) from by
  have hk:=HKD.out
  unfold aloneP
  rw [if_neg (by omega),if_neg (by omega),if_neg (by omega)]
  exact ⟨SlG.nil,SlG.nil,alone_fun x _ bi bf w2 (by omega) (HSL.below HB2.out) HI2.out HF2.out,SlG.nil⟩)
 have HOK:=hid (alone_ok x H8.out)
 obtain ⟨y0,y1,y2,y3,y4⟩:=HPB.p5
 cases hfb:formB x with
 | true =>
  have HFB:=hid hfb
  have hg:=alone_good x hfb
  have g4:((checkM (aloneP x)).2 == 4)=false:=by rw [beq_eq_false_iff_ne];exact hg.1
  have g5:((checkM (aloneP x)).2 == 5)=false:=by rw [beq_eq_false_iff_ne];exact hg.2
  have HM:=hid (show instrM x=(lineM x,0) from by unfold instrM;rw [if_pos hfb])
  clear hg hfb
  go_wp2_with (first
   | (go_at_call 34;(refine (check_any (aloneP x) _ _ _ _ _ HEW.out HPG.out HOK.out).mono ?_);rintro e w3 ⟨rfl,hb3⟩;have HB3:=hid (HBW.out.trans (hb3.mono HBW.out.size));have z0:∀ o,(w3.alloc o).cell? ⟨w.heap.size,0,none⟩=some (.int .u8 (x.kind:Int)):=fun o=>((HXW.out.bel hb3).al o).at 0 rfl;have z1:∀ o,(w3.alloc o).cell? ⟨w.heap.size,1,none⟩=some (.int .u8 (x.op:Int)):=fun o=>((HXW.out.bel hb3).al o).at 1 rfl;have z2:∀ o,(w3.alloc o).cell? ⟨w.heap.size,2,none⟩=some (.string ⟨x.dst.toArray⟩):=fun o=>((HXW.out.bel hb3).al o).at 2 rfl;have z3:∀ o,(w3.alloc o).cell? ⟨w.heap.size,3,none⟩=some (.string ⟨x.nm.toArray⟩):=fun o=>((HXW.out.bel hb3).al o).at 3 rfl;have z4:∀ o,(w3.alloc o).cell? ⟨w.heap.size,4,none⟩=some (.slice pa x.args.length ca):=fun o=>((HXW.out.bel hb3).al o).at 4 rfl;have z5:∀ o,(w3.alloc o).cell? ⟨w.heap.size,5,none⟩=some (.int .i64 x.pos.1):=fun o=>((HXW.out.bel hb3).al o).at 5 rfl;have z6:∀ o,(w3.alloc o).cell? ⟨w.heap.size,6,none⟩=some (.int .i64 x.pos.2):=fun o=>((HXW.out.bel hb3).al o).at 6 rfl;clear hb3)
   | (go_at_call 48;(refine (line_any x _ _ HFB.out HNU.out (HSL.out.below (HB3.out.alloc HB3.out.size _)) (HE.out.below (HB3.out.alloc HB3.out.size _))).mono ?_);rintro e w4 ⟨rfl,hb4⟩;have HB4:=hid ((HB3.out.alloc HB3.out.size _).trans (hb4.mono (HB3.out.alloc HB3.out.size _).size));clear hb4))
  go_ret2
  exact ⟨by rw [HM.out];rfl,HB4.out⟩
 | false =>
  have g4:((checkM (aloneP x)).2 == 4)=true:=by rw [alone_bad x hfb];rfl
  have HM:=hid (show instrM x=([],4) from by unfold instrM;rw [if_neg (by rw [hfb];decide)])
  clear hfb
  go_wp2_with (go_at_call 34;(refine (check_any (aloneP x) _ _ _ _ _ HEW.out HPG.out HOK.out).mono ?_);rintro e w3 ⟨rfl,hb3⟩;have HB3:=hid (HBW.out.trans (hb3.mono HBW.out.size));have z0:∀ o,(w3.alloc o).cell? ⟨w.heap.size,0,none⟩=some (.int .u8 (x.kind:Int)):=fun o=>((HXW.out.bel hb3).al o).at 0 rfl;have z1:∀ o,(w3.alloc o).cell? ⟨w.heap.size,1,none⟩=some (.int .u8 (x.op:Int)):=fun o=>((HXW.out.bel hb3).al o).at 1 rfl;have z2:∀ o,(w3.alloc o).cell? ⟨w.heap.size,2,none⟩=some (.string ⟨x.dst.toArray⟩):=fun o=>((HXW.out.bel hb3).al o).at 2 rfl;have z3:∀ o,(w3.alloc o).cell? ⟨w.heap.size,3,none⟩=some (.string ⟨x.nm.toArray⟩):=fun o=>((HXW.out.bel hb3).al o).at 3 rfl;have z4:∀ o,(w3.alloc o).cell? ⟨w.heap.size,4,none⟩=some (.slice pa x.args.length ca):=fun o=>((HXW.out.bel hb3).al o).at 4 rfl;have z5:∀ o,(w3.alloc o).cell? ⟨w.heap.size,5,none⟩=some (.int .i64 x.pos.1):=fun o=>((HXW.out.bel hb3).al o).at 5 rfl;have z6:∀ o,(w3.alloc o).cell? ⟨w.heap.size,6,none⟩=some (.int .i64 x.pos.2):=fun o=>((HXW.out.bel hb3).al o).at 6 rfl;clear hb3)
  go_ret2
  exact ⟨by rw [HM.out];rfl,HB3.alloc HB3.size _⟩
theorem instr_B5 (x:In) (v:Value) (w:World) (hkd:x.kind=5) (h8:x.kind<=255/\x.op<=255) (hn:∀ a ∈ x.args,a.num<18446744073709551616) (h:SlG kAg (·<w.heap.size) w v x.args) (hE:PrE w) :
  Calls Tryz.prog 61 #[.agg #[.int .u8 (x.kind:Int),.int .u8 (x.op:Int),.string ⟨x.dst.toArray⟩,.string ⟨x.nm.toArray⟩,v,.int .i64 x.pos.1,.int .i64 x.pos.2]] w fun e w'=>e=.returned (.tuple #[.string ⟨(instrM x).1.toArray⟩,.int .i64 (instrM x).2])/\Below w.heap.size w w':=by
 obtain ⟨pa,ca,rfl⟩:=h.slc
 have HSL:=hid h;have HE:=hid hE;have HNU:=hid hn;have H8:=hid h8;have HKD:=hid hkd
 have t5:((x.kind:Int) == 5)=true:=by simp;omega
 clear h hE hn h8 hkd
 go_enter Tryz.func61,Tryz.ntmps61
 go_upto_region 1 with fail
 obtain ⟨wo,hwo⟩:∃ W,w.alloc (.cells #[.int .u8 (x.kind:Int),.int .u8 (x.op:Int),.string ⟨x.dst.toArray⟩,.string ⟨x.nm.toArray⟩,.slice pa x.args.length ca,.int .i64 x.pos.1,.int .i64 x.pos.2] 41)=W:=⟨_,rfl⟩
 have HX0:=hid (show BxL 41 w.heap.size (inL x (.slice pa x.args.length ca)) wo from by rw [<- hwo];exact BxL.new _ _ _)
 have HB0:=hid (show Below w.heap.size w wo from by rw [<- hwo];exact bA)
 rw [hwo]
 clear hwo
 obtain ⟨n0,n1,n2,n3,n4,n5,n6⟩:=HX0.p7
 have HSO:=hid (HSL.below HB0.out)
 go_upto_region 3 with (go_at_call 95;(refine (alone_any x _ _ HSO.out).mono ?_);rintro e w1 ⟨bi,bf,hi1,hf1,hne,rfl,hbi,hbf,hb1⟩;have HI1:=hid hbi;have HF1:=hid hbf;have HB1:=hid (HB0.out.trans (hb1.mono HB0.out.size));have HX1:=hid (HX0.out.bel hb1);have HGE:=hid (And.intro hi1 (And.intro hf1 hne));have q0:∀ o,(w1.alloc o).cell? ⟨w.heap.size,0,none⟩=some (.int .u8 (x.kind:Int)):=fun o=>(HX1.out.al o).at 0 rfl;clear hi1 hf1 hne hbi hbf hb1)
 clear n0 n1 n2 n3 n4 n5 n6 q0
 obtain ⟨b4,hb4⟩:∃ b,w1.heap.size=b:=⟨_,rfl⟩
 have HBF:=hid (show bf<b4/\bi<b4/\w.heap.size<b4 from ⟨by rw [<- hb4];exact HF1.lt,by rw [<- hb4];exact HI1.lt,by rw [<- hb4];exact HX1.lt⟩)
 obtain ⟨w2,hw2⟩:∃ W,w1.alloc (.cells #[.int .i64 1,.slice none 0 0,.slice none 0 0,.slice (some ⟨bf,0,none⟩) 1 1,.slice none 0 0] 27)=W:=⟨_,rfl⟩
 have HB2:=hid (show Below w.heap.size w w2 from by rw [<- hw2];exact HB1.alloc HB1.size _)
 have HX2:=hid (show BxL 41 w.heap.size (inL x (.slice pa x.args.length ca)) w2 from by rw [<- hw2];exact HX1.al _)
 have HI2:=hid (show BxL 41 bi (inL { x with pos:=(1,1) } (.slice pa x.args.length ca)) w2 from by rw [<- hw2];exact HI1.al _)
 have HF2:=hid (show BxL 74 bf [.string ⟨#[102]⟩,.slice none 0 0,.slice (some ⟨bi,0,none⟩) 1 1,.int .i64 0,.int .i64 0] w2 from by rw [<- hw2];exact HF1.al _)
 have HP2:=hid (show BxL 27 b4 [.int .i64 1,.slice none 0 0,.slice none 0 0,.slice (some ⟨bf,0,none⟩) 1 1,.slice none 0 0] w2 from by rw [<- hw2,<- hb4];exact BxL.new _ _ _)
 have HS4:=hid (show w2.heap.size=b4+1 from by rw [<- hw2,<- hb4,sA])
 rw [hw2,hb4]
 clear hw2 hb4
 have m3:w2.cell? ⟨w.heap.size,3,none⟩=some (.string ⟨x.nm.toArray⟩):=HX2.at 3 rfl
 have q1:∀ o,(w2.alloc o).cell? ⟨b4,1,none⟩=some (.slice none 0 0):=fun o=>(HP2.al o).at 1 rfl
 have q2:∀ o,(w2.alloc o).frozen? ⟨b4,1,none⟩=false:=fun o=>(HP2.al o).fr 1
 go_upto_region 19 with fail
 clear m3 q1 q2
 obtain ⟨n4,hn4⟩:∃ b,w2.heap.size=b:=⟨_,rfl⟩
 have HN4:=hid (show n4=b4+1 from by rw [<- hn4];exact HS4.out)
 rw [hn4]
 obtain ⟨w5,hw5⟩:∃ W,(w2.alloc (.cells #[.string ⟨x.nm.toArray⟩] 9)).setCell ⟨b4,1,none⟩ (.slice (some ⟨n4,0,none⟩) 1 1)=W:=⟨_,rfl⟩
 have HBW:=hid (show Below w.heap.size w w5 from by rw [<- hw5];exact (HB2.alloc HB2.size _).setCell (p:=⟨b4,1,none⟩) (by have:=HBF.out;show w.heap.size<=b4;omega) _)
 have HXW:=hid (show BxL 41 w.heap.size (inL x (.slice pa x.args.length ca)) w5 from by rw [<- hw5];exact (HX2.al _).keep (heap_ot (by have:=HBF.out;omega) _))
 have HI5:=hid (show BxL 41 bi (inL { x with pos:=(1,1) } (.slice pa x.args.length ca)) w5 from by rw [<- hw5];exact (HI2.al _).keep (heap_ot (by have:=HBF.out;omega) _))
 have HF5:=hid (show BxL 74 bf [.string ⟨#[102]⟩,.slice none 0 0,.slice (some ⟨bi,0,none⟩) 1 1,.int .i64 0,.int .i64 0] w5 from by rw [<- hw5];exact (HF2.al _).keep (heap_ot (by have:=HBF.out;omega) _))
 have HPB:=hid (show BxL 27 b4 [.int .i64 1,.slice (some ⟨n4,0,none⟩) 1 1,.slice none 0 0,.slice (some ⟨bf,0,none⟩) 1 1,.slice none 0 0] w5 from by rw [<- hw5];exact (HP2.al _).set 1 _)
 have HNB:=hid (show BxL 9 n4 [.string ⟨x.nm.toArray⟩] w5 from by rw [<- hw5,<- hn4];exact (BxL.new 9 w2 [.string ⟨x.nm.toArray⟩]).keep (heap_ot (by rw [hn4];have:=HN4.out;omega) _))
 rw [hw5]
 clear hw5 hn4
 have HEW:=hid (HE.below HBW.out)
 have HPG:=hid (show PgV (·<w5.heap.size) w5 (.slice (some ⟨n4,0,none⟩) 1 1) (.slice none 0 0) (.slice (some ⟨bf,0,none⟩) 1 1) (.slice none 0 0) (aloneP x) from by
  have hk:=HKD.out
  unfold aloneP
  rw [if_pos (by omega),if_neg (by omega),if_neg (by omega)]
  exact ⟨SlG.box HNB.out rfl HNB.lt,SlG.nil,alone_fun x _ bi bf w5 (by omega) (HSL.below HBW.out) HI5.out HF5.out,SlG.nil⟩)
 have HOK:=hid (alone_ok x H8.out)
 obtain ⟨y0,y1,y2,y3,y4⟩:=HPB.p5
 cases hfb:formB x with
 | true =>
  have HFB:=hid hfb
  have hg:=alone_good x hfb
  have g4:((checkM (aloneP x)).2 == 4)=false:=by rw [beq_eq_false_iff_ne];exact hg.1
  have g5:((checkM (aloneP x)).2 == 5)=false:=by rw [beq_eq_false_iff_ne];exact hg.2
  have HM:=hid (show instrM x=(lineM x,0) from by unfold instrM;rw [if_pos hfb])
  clear hg hfb
  go_wp2_with (first
   | (go_at_call 34;(refine (check_any (aloneP x) _ _ _ _ _ HEW.out HPG.out HOK.out).mono ?_);rintro e w3 ⟨rfl,hb3⟩;have HB3:=hid (HBW.out.trans (hb3.mono HBW.out.size));have z0:∀ o,(w3.alloc o).cell? ⟨w.heap.size,0,none⟩=some (.int .u8 (x.kind:Int)):=fun o=>((HXW.out.bel hb3).al o).at 0 rfl;have z1:∀ o,(w3.alloc o).cell? ⟨w.heap.size,1,none⟩=some (.int .u8 (x.op:Int)):=fun o=>((HXW.out.bel hb3).al o).at 1 rfl;have z2:∀ o,(w3.alloc o).cell? ⟨w.heap.size,2,none⟩=some (.string ⟨x.dst.toArray⟩):=fun o=>((HXW.out.bel hb3).al o).at 2 rfl;have z3:∀ o,(w3.alloc o).cell? ⟨w.heap.size,3,none⟩=some (.string ⟨x.nm.toArray⟩):=fun o=>((HXW.out.bel hb3).al o).at 3 rfl;have z4:∀ o,(w3.alloc o).cell? ⟨w.heap.size,4,none⟩=some (.slice pa x.args.length ca):=fun o=>((HXW.out.bel hb3).al o).at 4 rfl;have z5:∀ o,(w3.alloc o).cell? ⟨w.heap.size,5,none⟩=some (.int .i64 x.pos.1):=fun o=>((HXW.out.bel hb3).al o).at 5 rfl;have z6:∀ o,(w3.alloc o).cell? ⟨w.heap.size,6,none⟩=some (.int .i64 x.pos.2):=fun o=>((HXW.out.bel hb3).al o).at 6 rfl;clear hb3)
   | (go_at_call 48;(refine (line_any x _ _ HFB.out HNU.out (HSL.out.below (HB3.out.alloc HB3.out.size _)) (HE.out.below (HB3.out.alloc HB3.out.size _))).mono ?_);rintro e w4 ⟨rfl,hb4⟩;have HB4:=hid ((HB3.out.alloc HB3.out.size _).trans (hb4.mono (HB3.out.alloc HB3.out.size _).size));clear hb4))
  go_ret2
  exact ⟨by rw [HM.out];rfl,HB4.out⟩
 | false =>
  have g4:((checkM (aloneP x)).2 == 4)=true:=by rw [alone_bad x hfb];rfl
  have HM:=hid (show instrM x=([],4) from by unfold instrM;rw [if_neg (by rw [hfb];decide)])
  clear hfb
  go_wp2_with (go_at_call 34;(refine (check_any (aloneP x) _ _ _ _ _ HEW.out HPG.out HOK.out).mono ?_);rintro e w3 ⟨rfl,hb3⟩;have HB3:=hid (HBW.out.trans (hb3.mono HBW.out.size));have z0:∀ o,(w3.alloc o).cell? ⟨w.heap.size,0,none⟩=some (.int .u8 (x.kind:Int)):=fun o=>((HXW.out.bel hb3).al o).at 0 rfl;have z1:∀ o,(w3.alloc o).cell? ⟨w.heap.size,1,none⟩=some (.int .u8 (x.op:Int)):=fun o=>((HXW.out.bel hb3).al o).at 1 rfl;have z2:∀ o,(w3.alloc o).cell? ⟨w.heap.size,2,none⟩=some (.string ⟨x.dst.toArray⟩):=fun o=>((HXW.out.bel hb3).al o).at 2 rfl;have z3:∀ o,(w3.alloc o).cell? ⟨w.heap.size,3,none⟩=some (.string ⟨x.nm.toArray⟩):=fun o=>((HXW.out.bel hb3).al o).at 3 rfl;have z4:∀ o,(w3.alloc o).cell? ⟨w.heap.size,4,none⟩=some (.slice pa x.args.length ca):=fun o=>((HXW.out.bel hb3).al o).at 4 rfl;have z5:∀ o,(w3.alloc o).cell? ⟨w.heap.size,5,none⟩=some (.int .i64 x.pos.1):=fun o=>((HXW.out.bel hb3).al o).at 5 rfl;have z6:∀ o,(w3.alloc o).cell? ⟨w.heap.size,6,none⟩=some (.int .i64 x.pos.2):=fun o=>((HXW.out.bel hb3).al o).at 6 rfl;clear hb3)
  go_ret2
  exact ⟨by rw [HM.out];rfl,HB3.alloc HB3.size _⟩
theorem instr_B6 (x:In) (v:Value) (w:World) (hkd:x.kind=6) (h8:x.kind<=255/\x.op<=255) (hn:∀ a ∈ x.args,a.num<18446744073709551616) (h:SlG kAg (·<w.heap.size) w v x.args) (hE:PrE w) :
  Calls Tryz.prog 61 #[.agg #[.int .u8 (x.kind:Int),.int .u8 (x.op:Int),.string ⟨x.dst.toArray⟩,.string ⟨x.nm.toArray⟩,v,.int .i64 x.pos.1,.int .i64 x.pos.2]] w fun e w'=>e=.returned (.tuple #[.string ⟨(instrM x).1.toArray⟩,.int .i64 (instrM x).2])/\Below w.heap.size w w':=by
 obtain ⟨pa,ca,rfl⟩:=h.slc
 have HSL:=hid h;have HE:=hid hE;have HNU:=hid hn;have H8:=hid h8;have HKD:=hid hkd
 have t5:((x.kind:Int) == 5)=false:=by simp;omega
 have t6:((x.kind:Int) == 6)=true:=by simp;omega
 clear h hE hn h8 hkd
 go_enter Tryz.func61,Tryz.ntmps61
 go_upto_region 1 with fail
 obtain ⟨wo,hwo⟩:∃ W,w.alloc (.cells #[.int .u8 (x.kind:Int),.int .u8 (x.op:Int),.string ⟨x.dst.toArray⟩,.string ⟨x.nm.toArray⟩,.slice pa x.args.length ca,.int .i64 x.pos.1,.int .i64 x.pos.2] 41)=W:=⟨_,rfl⟩
 have HX0:=hid (show BxL 41 w.heap.size (inL x (.slice pa x.args.length ca)) wo from by rw [<- hwo];exact BxL.new _ _ _)
 have HB0:=hid (show Below w.heap.size w wo from by rw [<- hwo];exact bA)
 rw [hwo]
 clear hwo
 obtain ⟨n0,n1,n2,n3,n4,n5,n6⟩:=HX0.p7
 have HSO:=hid (HSL.below HB0.out)
 go_upto_region 3 with (go_at_call 95;(refine (alone_any x _ _ HSO.out).mono ?_);rintro e w1 ⟨bi,bf,hi1,hf1,hne,rfl,hbi,hbf,hb1⟩;have HI1:=hid hbi;have HF1:=hid hbf;have HB1:=hid (HB0.out.trans (hb1.mono HB0.out.size));have HX1:=hid (HX0.out.bel hb1);have HGE:=hid (And.intro hi1 (And.intro hf1 hne));have q0:∀ o,(w1.alloc o).cell? ⟨w.heap.size,0,none⟩=some (.int .u8 (x.kind:Int)):=fun o=>(HX1.out.al o).at 0 rfl;clear hi1 hf1 hne hbi hbf hb1)
 clear n0 n1 n2 n3 n4 n5 n6 q0
 obtain ⟨b4,hb4⟩:∃ b,w1.heap.size=b:=⟨_,rfl⟩
 have HBF:=hid (show bf<b4/\bi<b4/\w.heap.size<b4 from ⟨by rw [<- hb4];exact HF1.lt,by rw [<- hb4];exact HI1.lt,by rw [<- hb4];exact HX1.lt⟩)
 obtain ⟨w2,hw2⟩:∃ W,w1.alloc (.cells #[.int .i64 1,.slice none 0 0,.slice none 0 0,.slice (some ⟨bf,0,none⟩) 1 1,.slice none 0 0] 27)=W:=⟨_,rfl⟩
 have HB2:=hid (show Below w.heap.size w w2 from by rw [<- hw2];exact HB1.alloc HB1.size _)
 have HX2:=hid (show BxL 41 w.heap.size (inL x (.slice pa x.args.length ca)) w2 from by rw [<- hw2];exact HX1.al _)
 have HI2:=hid (show BxL 41 bi (inL { x with pos:=(1,1) } (.slice pa x.args.length ca)) w2 from by rw [<- hw2];exact HI1.al _)
 have HF2:=hid (show BxL 74 bf [.string ⟨#[102]⟩,.slice none 0 0,.slice (some ⟨bi,0,none⟩) 1 1,.int .i64 0,.int .i64 0] w2 from by rw [<- hw2];exact HF1.al _)
 have HP2:=hid (show BxL 27 b4 [.int .i64 1,.slice none 0 0,.slice none 0 0,.slice (some ⟨bf,0,none⟩) 1 1,.slice none 0 0] w2 from by rw [<- hw2,<- hb4];exact BxL.new _ _ _)
 have HS4:=hid (show w2.heap.size=b4+1 from by rw [<- hw2,<- hb4,sA])
 rw [hw2,hb4]
 clear hw2 hb4
 have m3:w2.cell? ⟨w.heap.size,3,none⟩=some (.string ⟨x.nm.toArray⟩):=HX2.at 3 rfl
 have q1:∀ o,(w2.alloc o).cell? ⟨b4,1,none⟩=some (.slice none 0 0):=fun o=>(HP2.al o).at 1 rfl
 have q2:∀ o,(w2.alloc o).frozen? ⟨b4,1,none⟩=false:=fun o=>(HP2.al o).fr 1
 go_upto_region 19 with fail
 clear m3 q1 q2
 obtain ⟨n4,hn4⟩:∃ b,w2.heap.size=b:=⟨_,rfl⟩
 have HN4:=hid (show n4=b4+1 from by rw [<- hn4];exact HS4.out)
 rw [hn4]
 obtain ⟨w5,hw5⟩:∃ W,(w2.alloc (.cells #[.string ⟨x.nm.toArray⟩] 9)).setCell ⟨b4,1,none⟩ (.slice (some ⟨n4,0,none⟩) 1 1)=W:=⟨_,rfl⟩
 have HBW:=hid (show Below w.heap.size w w5 from by rw [<- hw5];exact (HB2.alloc HB2.size _).setCell (p:=⟨b4,1,none⟩) (by have:=HBF.out;show w.heap.size<=b4;omega) _)
 have HXW:=hid (show BxL 41 w.heap.size (inL x (.slice pa x.args.length ca)) w5 from by rw [<- hw5];exact (HX2.al _).keep (heap_ot (by have:=HBF.out;omega) _))
 have HI5:=hid (show BxL 41 bi (inL { x with pos:=(1,1) } (.slice pa x.args.length ca)) w5 from by rw [<- hw5];exact (HI2.al _).keep (heap_ot (by have:=HBF.out;omega) _))
 have HF5:=hid (show BxL 74 bf [.string ⟨#[102]⟩,.slice none 0 0,.slice (some ⟨bi,0,none⟩) 1 1,.int .i64 0,.int .i64 0] w5 from by rw [<- hw5];exact (HF2.al _).keep (heap_ot (by have:=HBF.out;omega) _))
 have HPB:=hid (show BxL 27 b4 [.int .i64 1,.slice (some ⟨n4,0,none⟩) 1 1,.slice none 0 0,.slice (some ⟨bf,0,none⟩) 1 1,.slice none 0 0] w5 from by rw [<- hw5];exact (HP2.al _).set 1 _)
 have HNB:=hid (show BxL 9 n4 [.string ⟨x.nm.toArray⟩] w5 from by rw [<- hw5,<- hn4];exact (BxL.new 9 w2 [.string ⟨x.nm.toArray⟩]).keep (heap_ot (by rw [hn4];have:=HN4.out;omega) _))
 rw [hw5]
 clear hw5 hn4
 have HEW:=hid (HE.below HBW.out)
 have HPG:=hid (show PgV (·<w5.heap.size) w5 (.slice (some ⟨n4,0,none⟩) 1 1) (.slice none 0 0) (.slice (some ⟨bf,0,none⟩) 1 1) (.slice none 0 0) (aloneP x) from by
  have hk:=HKD.out
  unfold aloneP
  rw [if_pos (by omega),if_neg (by omega),if_neg (by omega)]
  exact ⟨SlG.box HNB.out rfl HNB.lt,SlG.nil,alone_fun x _ bi bf w5 (by omega) (HSL.below HBW.out) HI5.out HF5.out,SlG.nil⟩)
 have HOK:=hid (alone_ok x H8.out)
 obtain ⟨y0,y1,y2,y3,y4⟩:=HPB.p5
 cases hfb:formB x with
 | true =>
  have HFB:=hid hfb
  have hg:=alone_good x hfb
  have g4:((checkM (aloneP x)).2 == 4)=false:=by rw [beq_eq_false_iff_ne];exact hg.1
  have g5:((checkM (aloneP x)).2 == 5)=false:=by rw [beq_eq_false_iff_ne];exact hg.2
  have HM:=hid (show instrM x=(lineM x,0) from by unfold instrM;rw [if_pos hfb])
  clear hg hfb
  go_wp2_with (first
   | (go_at_call 34;(refine (check_any (aloneP x) _ _ _ _ _ HEW.out HPG.out HOK.out).mono ?_);rintro e w3 ⟨rfl,hb3⟩;have HB3:=hid (HBW.out.trans (hb3.mono HBW.out.size));have z0:∀ o,(w3.alloc o).cell? ⟨w.heap.size,0,none⟩=some (.int .u8 (x.kind:Int)):=fun o=>((HXW.out.bel hb3).al o).at 0 rfl;have z1:∀ o,(w3.alloc o).cell? ⟨w.heap.size,1,none⟩=some (.int .u8 (x.op:Int)):=fun o=>((HXW.out.bel hb3).al o).at 1 rfl;have z2:∀ o,(w3.alloc o).cell? ⟨w.heap.size,2,none⟩=some (.string ⟨x.dst.toArray⟩):=fun o=>((HXW.out.bel hb3).al o).at 2 rfl;have z3:∀ o,(w3.alloc o).cell? ⟨w.heap.size,3,none⟩=some (.string ⟨x.nm.toArray⟩):=fun o=>((HXW.out.bel hb3).al o).at 3 rfl;have z4:∀ o,(w3.alloc o).cell? ⟨w.heap.size,4,none⟩=some (.slice pa x.args.length ca):=fun o=>((HXW.out.bel hb3).al o).at 4 rfl;have z5:∀ o,(w3.alloc o).cell? ⟨w.heap.size,5,none⟩=some (.int .i64 x.pos.1):=fun o=>((HXW.out.bel hb3).al o).at 5 rfl;have z6:∀ o,(w3.alloc o).cell? ⟨w.heap.size,6,none⟩=some (.int .i64 x.pos.2):=fun o=>((HXW.out.bel hb3).al o).at 6 rfl;clear hb3)
   | (go_at_call 48;(refine (line_any x _ _ HFB.out HNU.out (HSL.out.below (HB3.out.alloc HB3.out.size _)) (HE.out.below (HB3.out.alloc HB3.out.size _))).mono ?_);rintro e w4 ⟨rfl,hb4⟩;have HB4:=hid ((HB3.out.alloc HB3.out.size _).trans (hb4.mono (HB3.out.alloc HB3.out.size _).size));clear hb4))
  go_ret2
  exact ⟨by rw [HM.out];rfl,HB4.out⟩
 | false =>
  have g4:((checkM (aloneP x)).2 == 4)=true:=by rw [alone_bad x hfb];rfl
  have HM:=hid (show instrM x=([],4) from by unfold instrM;rw [if_neg (by rw [hfb];decide)])
  clear hfb
  go_wp2_with (go_at_call 34;(refine (check_any (aloneP x) _ _ _ _ _ HEW.out HPG.out HOK.out).mono ?_);rintro e w3 ⟨rfl,hb3⟩;have HB3:=hid (HBW.out.trans (hb3.mono HBW.out.size));have z0:∀ o,(w3.alloc o).cell? ⟨w.heap.size,0,none⟩=some (.int .u8 (x.kind:Int)):=fun o=>((HXW.out.bel hb3).al o).at 0 rfl;have z1:∀ o,(w3.alloc o).cell? ⟨w.heap.size,1,none⟩=some (.int .u8 (x.op:Int)):=fun o=>((HXW.out.bel hb3).al o).at 1 rfl;have z2:∀ o,(w3.alloc o).cell? ⟨w.heap.size,2,none⟩=some (.string ⟨x.dst.toArray⟩):=fun o=>((HXW.out.bel hb3).al o).at 2 rfl;have z3:∀ o,(w3.alloc o).cell? ⟨w.heap.size,3,none⟩=some (.string ⟨x.nm.toArray⟩):=fun o=>((HXW.out.bel hb3).al o).at 3 rfl;have z4:∀ o,(w3.alloc o).cell? ⟨w.heap.size,4,none⟩=some (.slice pa x.args.length ca):=fun o=>((HXW.out.bel hb3).al o).at 4 rfl;have z5:∀ o,(w3.alloc o).cell? ⟨w.heap.size,5,none⟩=some (.int .i64 x.pos.1):=fun o=>((HXW.out.bel hb3).al o).at 5 rfl;have z6:∀ o,(w3.alloc o).cell? ⟨w.heap.size,6,none⟩=some (.int .i64 x.pos.2):=fun o=>((HXW.out.bel hb3).al o).at 6 rfl;clear hb3)
  go_ret2
  exact ⟨by rw [HM.out];rfl,HB3.alloc HB3.size _⟩
theorem instr_C2 (x:In) (v:Value) (w:World) (hkd:x.kind=2) (h8:x.kind<=255/\x.op<=255) (hn:∀ a ∈ x.args,a.num<18446744073709551616) (h:SlG kAg (·<w.heap.size) w v x.args) (hE:PrE w) :
  Calls Tryz.prog 61 #[.agg #[.int .u8 (x.kind:Int),.int .u8 (x.op:Int),.string ⟨x.dst.toArray⟩,.string ⟨x.nm.toArray⟩,v,.int .i64 x.pos.1,.int .i64 x.pos.2]] w fun e w'=>e=.returned (.tuple #[.string ⟨(instrM x).1.toArray⟩,.int .i64 (instrM x).2])/\Below w.heap.size w w':=by
 obtain ⟨pa,ca,rfl⟩:=h.slc
 have HSL:=hid h;have HE:=hid hE;have HNU:=hid hn;have H8:=hid h8;have HKD:=hid hkd
 have t5:((x.kind:Int) == 5)=false:=by simp;omega
 have t6:((x.kind:Int) == 6)=false:=by simp;omega
 have t2:((x.kind:Int) == 2)=true:=by simp;omega
 clear h hE hn h8 hkd
 go_enter Tryz.func61,Tryz.ntmps61
 go_upto_region 1 with fail
 obtain ⟨wo,hwo⟩:∃ W,w.alloc (.cells #[.int .u8 (x.kind:Int),.int .u8 (x.op:Int),.string ⟨x.dst.toArray⟩,.string ⟨x.nm.toArray⟩,.slice pa x.args.length ca,.int .i64 x.pos.1,.int .i64 x.pos.2] 41)=W:=⟨_,rfl⟩
 have HX0:=hid (show BxL 41 w.heap.size (inL x (.slice pa x.args.length ca)) wo from by rw [<- hwo];exact BxL.new _ _ _)
 have HB0:=hid (show Below w.heap.size w wo from by rw [<- hwo];exact bA)
 rw [hwo]
 clear hwo
 obtain ⟨n0,n1,n2,n3,n4,n5,n6⟩:=HX0.p7
 have HSO:=hid (HSL.below HB0.out)
 go_upto_region 3 with (go_at_call 95;(refine (alone_any x _ _ HSO.out).mono ?_);rintro e w1 ⟨bi,bf,hi1,hf1,hne,rfl,hbi,hbf,hb1⟩;have HI1:=hid hbi;have HF1:=hid hbf;have HB1:=hid (HB0.out.trans (hb1.mono HB0.out.size));have HX1:=hid (HX0.out.bel hb1);have HGE:=hid (And.intro hi1 (And.intro hf1 hne));have q0:∀ o,(w1.alloc o).cell? ⟨w.heap.size,0,none⟩=some (.int .u8 (x.kind:Int)):=fun o=>(HX1.out.al o).at 0 rfl;clear hi1 hf1 hne hbi hbf hb1)
 clear n0 n1 n2 n3 n4 n5 n6 q0
 obtain ⟨b4,hb4⟩:∃ b,w1.heap.size=b:=⟨_,rfl⟩
 have HBF:=hid (show bf<b4/\bi<b4/\w.heap.size<b4 from ⟨by rw [<- hb4];exact HF1.lt,by rw [<- hb4];exact HI1.lt,by rw [<- hb4];exact HX1.lt⟩)
 obtain ⟨w2,hw2⟩:∃ W,w1.alloc (.cells #[.int .i64 1,.slice none 0 0,.slice none 0 0,.slice (some ⟨bf,0,none⟩) 1 1,.slice none 0 0] 27)=W:=⟨_,rfl⟩
 have HB2:=hid (show Below w.heap.size w w2 from by rw [<- hw2];exact HB1.alloc HB1.size _)
 have HX2:=hid (show BxL 41 w.heap.size (inL x (.slice pa x.args.length ca)) w2 from by rw [<- hw2];exact HX1.al _)
 have HI2:=hid (show BxL 41 bi (inL { x with pos:=(1,1) } (.slice pa x.args.length ca)) w2 from by rw [<- hw2];exact HI1.al _)
 have HF2:=hid (show BxL 74 bf [.string ⟨#[102]⟩,.slice none 0 0,.slice (some ⟨bi,0,none⟩) 1 1,.int .i64 0,.int .i64 0] w2 from by rw [<- hw2];exact HF1.al _)
 have HP2:=hid (show BxL 27 b4 [.int .i64 1,.slice none 0 0,.slice none 0 0,.slice (some ⟨bf,0,none⟩) 1 1,.slice none 0 0] w2 from by rw [<- hw2,<- hb4];exact BxL.new _ _ _)
 have HS4:=hid (show w2.heap.size=b4+1 from by rw [<- hw2,<- hb4,sA])
 rw [hw2,hb4]
 clear hw2 hb4
 have m3:w2.cell? ⟨w.heap.size,3,none⟩=some (.string ⟨x.nm.toArray⟩):=HX2.at 3 rfl
 have q1:∀ o,(w2.alloc o).cell? ⟨b4,2,none⟩=some (.slice none 0 0):=fun o=>(HP2.al o).at 2 rfl
 have q2:∀ o,(w2.alloc o).frozen? ⟨b4,2,none⟩=false:=fun o=>(HP2.al o).fr 2
 go_upto_region 19 with fail
 clear m3 q1 q2
 obtain ⟨n4,hn4⟩:∃ b,w2.heap.size=b:=⟨_,rfl⟩
 have HN4:=hid (show n4=b4+1 from by rw [<- hn4];exact HS4.out)
 rw [hn4]
 obtain ⟨w5,hw5⟩:∃ W,(w2.alloc (.cells #[.string ⟨x.nm.toArray⟩,.int .i64 1] 87)).setCell ⟨b4,2,none⟩ (.slice (some ⟨n4,0,none⟩) 1 1)=W:=⟨_,rfl⟩
 have HBW:=hid (show Below w.heap.size w w5 from by rw [<- hw5];exact (HB2.alloc HB2.size _).setCell (p:=⟨b4,2,none⟩) (by have:=HBF.out;show w.heap.size<=b4;omega) _)
 have HXW:=hid (show BxL 41 w.heap.size (inL x (.slice pa x.args.length ca)) w5 from by rw [<- hw5];exact (HX2.al _).keep (heap_ot (by have:=HBF.out;omega) _))
 have HI5:=hid (show BxL 41 bi (inL { x with pos:=(1,1) } (.slice pa x.args.length ca)) w5 from by rw [<- hw5];exact (HI2.al _).keep (heap_ot (by have:=HBF.out;omega) _))
 have HF5:=hid (show BxL 74 bf [.string ⟨#[102]⟩,.slice none 0 0,.slice (some ⟨bi,0,none⟩) 1 1,.int .i64 0,.int .i64 0] w5 from by rw [<- hw5];exact (HF2.al _).keep (heap_ot (by have:=HBF.out;omega) _))
 have HPB:=hid (show BxL 27 b4 [.int .i64 1,.slice none 0 0,.slice (some ⟨n4,0,none⟩) 1 1,.slice (some ⟨bf,0,none⟩) 1 1,.slice none 0 0] w5 from by rw [<- hw5];exact (HP2.al _).set 2 _)
 have HNB:=hid (show BxL 87 n4 [.string ⟨x.nm.toArray⟩,.int .i64 1] w5 from by rw [<- hw5,<- hn4];exact (BxL.new 87 w2 [.string ⟨x.nm.toArray⟩,.int .i64 1]).keep (heap_ot (by rw [hn4];have:=HN4.out;omega) _))
 rw [hw5]
 clear hw5 hn4
 have HEW:=hid (HE.below HBW.out)
 have HPG:=hid (show PgV (·<w5.heap.size) w5 (.slice none 0 0) (.slice (some ⟨n4,0,none⟩) 1 1) (.slice (some ⟨bf,0,none⟩) 1 1) (.slice none 0 0) (aloneP x) from by
  have hk:=HKD.out
  unfold aloneP
  rw [if_neg (by omega),if_pos (by omega),if_neg (by omega)]
  exact ⟨SlG.nil,SlG.box HNB.out rfl HNB.lt,alone_fun x _ bi bf w5 (by omega) (HSL.below HBW.out) HI5.out HF5.out,SlG.nil⟩)
 have HOK:=hid (alone_ok x H8.out)
 obtain ⟨y0,y1,y2,y3,y4⟩:=HPB.p5
 cases hfb:formB x with
 | true =>
  have HFB:=hid hfb
  have hg:=alone_good x hfb
  have g4:((checkM (aloneP x)).2 == 4)=false:=by rw [beq_eq_false_iff_ne];exact hg.1
  have g5:((checkM (aloneP x)).2 == 5)=false:=by rw [beq_eq_false_iff_ne];exact hg.2
  have HM:=hid (show instrM x=(lineM x,0) from by unfold instrM;rw [if_pos hfb])
  clear hg hfb
  go_wp2_with (first
   | (go_at_call 34;(refine (check_any (aloneP x) _ _ _ _ _ HEW.out HPG.out HOK.out).mono ?_);rintro e w3 ⟨rfl,hb3⟩;have HB3:=hid (HBW.out.trans (hb3.mono HBW.out.size));have z0:∀ o,(w3.alloc o).cell? ⟨w.heap.size,0,none⟩=some (.int .u8 (x.kind:Int)):=fun o=>((HXW.out.bel hb3).al o).at 0 rfl;have z1:∀ o,(w3.alloc o).cell? ⟨w.heap.size,1,none⟩=some (.int .u8 (x.op:Int)):=fun o=>((HXW.out.bel hb3).al o).at 1 rfl;have z2:∀ o,(w3.alloc o).cell? ⟨w.heap.size,2,none⟩=some (.string ⟨x.dst.toArray⟩):=fun o=>((HXW.out.bel hb3).al o).at 2 rfl;have z3:∀ o,(w3.alloc o).cell? ⟨w.heap.size,3,none⟩=some (.string ⟨x.nm.toArray⟩):=fun o=>((HXW.out.bel hb3).al o).at 3 rfl;have z4:∀ o,(w3.alloc o).cell? ⟨w.heap.size,4,none⟩=some (.slice pa x.args.length ca):=fun o=>((HXW.out.bel hb3).al o).at 4 rfl;have z5:∀ o,(w3.alloc o).cell? ⟨w.heap.size,5,none⟩=some (.int .i64 x.pos.1):=fun o=>((HXW.out.bel hb3).al o).at 5 rfl;have z6:∀ o,(w3.alloc o).cell? ⟨w.heap.size,6,none⟩=some (.int .i64 x.pos.2):=fun o=>((HXW.out.bel hb3).al o).at 6 rfl;clear hb3)
   | (go_at_call 48;(refine (line_any x _ _ HFB.out HNU.out (HSL.out.below (HB3.out.alloc HB3.out.size _)) (HE.out.below (HB3.out.alloc HB3.out.size _))).mono ?_);rintro e w4 ⟨rfl,hb4⟩;have HB4:=hid ((HB3.out.alloc HB3.out.size _).trans (hb4.mono (HB3.out.alloc HB3.out.size _).size));clear hb4))
  go_ret2
  exact ⟨by rw [HM.out];rfl,HB4.out⟩
 | false =>
  have g4:((checkM (aloneP x)).2 == 4)=true:=by rw [alone_bad x hfb];rfl
  have HM:=hid (show instrM x=([],4) from by unfold instrM;rw [if_neg (by rw [hfb];decide)])
  clear hfb
  go_wp2_with (go_at_call 34;(refine (check_any (aloneP x) _ _ _ _ _ HEW.out HPG.out HOK.out).mono ?_);rintro e w3 ⟨rfl,hb3⟩;have HB3:=hid (HBW.out.trans (hb3.mono HBW.out.size));have z0:∀ o,(w3.alloc o).cell? ⟨w.heap.size,0,none⟩=some (.int .u8 (x.kind:Int)):=fun o=>((HXW.out.bel hb3).al o).at 0 rfl;have z1:∀ o,(w3.alloc o).cell? ⟨w.heap.size,1,none⟩=some (.int .u8 (x.op:Int)):=fun o=>((HXW.out.bel hb3).al o).at 1 rfl;have z2:∀ o,(w3.alloc o).cell? ⟨w.heap.size,2,none⟩=some (.string ⟨x.dst.toArray⟩):=fun o=>((HXW.out.bel hb3).al o).at 2 rfl;have z3:∀ o,(w3.alloc o).cell? ⟨w.heap.size,3,none⟩=some (.string ⟨x.nm.toArray⟩):=fun o=>((HXW.out.bel hb3).al o).at 3 rfl;have z4:∀ o,(w3.alloc o).cell? ⟨w.heap.size,4,none⟩=some (.slice pa x.args.length ca):=fun o=>((HXW.out.bel hb3).al o).at 4 rfl;have z5:∀ o,(w3.alloc o).cell? ⟨w.heap.size,5,none⟩=some (.int .i64 x.pos.1):=fun o=>((HXW.out.bel hb3).al o).at 5 rfl;have z6:∀ o,(w3.alloc o).cell? ⟨w.heap.size,6,none⟩=some (.int .i64 x.pos.2):=fun o=>((HXW.out.bel hb3).al o).at 6 rfl;clear hb3)
  go_ret2
  exact ⟨by rw [HM.out];rfl,HB3.alloc HB3.size _⟩
theorem instr_C3 (x:In) (v:Value) (w:World) (hkd:x.kind=3) (h8:x.kind<=255/\x.op<=255) (hn:∀ a ∈ x.args,a.num<18446744073709551616) (h:SlG kAg (·<w.heap.size) w v x.args) (hE:PrE w) :
  Calls Tryz.prog 61 #[.agg #[.int .u8 (x.kind:Int),.int .u8 (x.op:Int),.string ⟨x.dst.toArray⟩,.string ⟨x.nm.toArray⟩,v,.int .i64 x.pos.1,.int .i64 x.pos.2]] w fun e w'=>e=.returned (.tuple #[.string ⟨(instrM x).1.toArray⟩,.int .i64 (instrM x).2])/\Below w.heap.size w w':=by
 obtain ⟨pa,ca,rfl⟩:=h.slc
 have HSL:=hid h;have HE:=hid hE;have HNU:=hid hn;have H8:=hid h8;have HKD:=hid hkd
 have t5:((x.kind:Int) == 5)=false:=by simp;omega
 have t6:((x.kind:Int) == 6)=false:=by simp;omega
 have t2:((x.kind:Int) == 2)=false:=by simp;omega
 have t3:((x.kind:Int) == 3)=true:=by simp;omega
 clear h hE hn h8 hkd
 go_enter Tryz.func61,Tryz.ntmps61
 go_upto_region 1 with fail
 obtain ⟨wo,hwo⟩:∃ W,w.alloc (.cells #[.int .u8 (x.kind:Int),.int .u8 (x.op:Int),.string ⟨x.dst.toArray⟩,.string ⟨x.nm.toArray⟩,.slice pa x.args.length ca,.int .i64 x.pos.1,.int .i64 x.pos.2] 41)=W:=⟨_,rfl⟩
 have HX0:=hid (show BxL 41 w.heap.size (inL x (.slice pa x.args.length ca)) wo from by rw [<- hwo];exact BxL.new _ _ _)
 have HB0:=hid (show Below w.heap.size w wo from by rw [<- hwo];exact bA)
 rw [hwo]
 clear hwo
 obtain ⟨n0,n1,n2,n3,n4,n5,n6⟩:=HX0.p7
 have HSO:=hid (HSL.below HB0.out)
 go_upto_region 3 with (go_at_call 95;(refine (alone_any x _ _ HSO.out).mono ?_);rintro e w1 ⟨bi,bf,hi1,hf1,hne,rfl,hbi,hbf,hb1⟩;have HI1:=hid hbi;have HF1:=hid hbf;have HB1:=hid (HB0.out.trans (hb1.mono HB0.out.size));have HX1:=hid (HX0.out.bel hb1);have HGE:=hid (And.intro hi1 (And.intro hf1 hne));have q0:∀ o,(w1.alloc o).cell? ⟨w.heap.size,0,none⟩=some (.int .u8 (x.kind:Int)):=fun o=>(HX1.out.al o).at 0 rfl;clear hi1 hf1 hne hbi hbf hb1)
 clear n0 n1 n2 n3 n4 n5 n6 q0
 obtain ⟨b4,hb4⟩:∃ b,w1.heap.size=b:=⟨_,rfl⟩
 have HBF:=hid (show bf<b4/\bi<b4/\w.heap.size<b4 from ⟨by rw [<- hb4];exact HF1.lt,by rw [<- hb4];exact HI1.lt,by rw [<- hb4];exact HX1.lt⟩)
 obtain ⟨w2,hw2⟩:∃ W,w1.alloc (.cells #[.int .i64 1,.slice none 0 0,.slice none 0 0,.slice (some ⟨bf,0,none⟩) 1 1,.slice none 0 0] 27)=W:=⟨_,rfl⟩
 have HB2:=hid (show Below w.heap.size w w2 from by rw [<- hw2];exact HB1.alloc HB1.size _)
 have HX2:=hid (show BxL 41 w.heap.size (inL x (.slice pa x.args.length ca)) w2 from by rw [<- hw2];exact HX1.al _)
 have HI2:=hid (show BxL 41 bi (inL { x with pos:=(1,1) } (.slice pa x.args.length ca)) w2 from by rw [<- hw2];exact HI1.al _)
 have HF2:=hid (show BxL 74 bf [.string ⟨#[102]⟩,.slice none 0 0,.slice (some ⟨bi,0,none⟩) 1 1,.int .i64 0,.int .i64 0] w2 from by rw [<- hw2];exact HF1.al _)
 have HP2:=hid (show BxL 27 b4 [.int .i64 1,.slice none 0 0,.slice none 0 0,.slice (some ⟨bf,0,none⟩) 1 1,.slice none 0 0] w2 from by rw [<- hw2,<- hb4];exact BxL.new _ _ _)
 have HS4:=hid (show w2.heap.size=b4+1 from by rw [<- hw2,<- hb4,sA])
 rw [hw2,hb4]
 clear hw2 hb4
 have m3:w2.cell? ⟨w.heap.size,3,none⟩=some (.string ⟨x.nm.toArray⟩):=HX2.at 3 rfl
 have q1:∀ o,(w2.alloc o).cell? ⟨b4,2,none⟩=some (.slice none 0 0):=fun o=>(HP2.al o).at 2 rfl
 have q2:∀ o,(w2.alloc o).frozen? ⟨b4,2,none⟩=false:=fun o=>(HP2.al o).fr 2
 go_upto_region 19 with fail
 clear m3 q1 q2
 obtain ⟨n4,hn4⟩:∃ b,w2.heap.size=b:=⟨_,rfl⟩
 have HN4:=hid (show n4=b4+1 from by rw [<- hn4];exact HS4.out)
 rw [hn4]
 obtain ⟨w5,hw5⟩:∃ W,(w2.alloc (.cells #[.string ⟨x.nm.toArray⟩,.int .i64 1] 87)).setCell ⟨b4,2,none⟩ (.slice (some ⟨n4,0,none⟩) 1 1)=W:=⟨_,rfl⟩
 have HBW:=hid (show Below w.heap.size w w5 from by rw [<- hw5];exact (HB2.alloc HB2.size _).setCell (p:=⟨b4,2,none⟩) (by have:=HBF.out;show w.heap.size<=b4;omega) _)
 have HXW:=hid (show BxL 41 w.heap.size (inL x (.slice pa x.args.length ca)) w5 from by rw [<- hw5];exact (HX2.al _).keep (heap_ot (by have:=HBF.out;omega) _))
 have HI5:=hid (show BxL 41 bi (inL { x with pos:=(1,1) } (.slice pa x.args.length ca)) w5 from by rw [<- hw5];exact (HI2.al _).keep (heap_ot (by have:=HBF.out;omega) _))
 have HF5:=hid (show BxL 74 bf [.string ⟨#[102]⟩,.slice none 0 0,.slice (some ⟨bi,0,none⟩) 1 1,.int .i64 0,.int .i64 0] w5 from by rw [<- hw5];exact (HF2.al _).keep (heap_ot (by have:=HBF.out;omega) _))
 have HPB:=hid (show BxL 27 b4 [.int .i64 1,.slice none 0 0,.slice (some ⟨n4,0,none⟩) 1 1,.slice (some ⟨bf,0,none⟩) 1 1,.slice none 0 0] w5 from by rw [<- hw5];exact (HP2.al _).set 2 _)
 have HNB:=hid (show BxL 87 n4 [.string ⟨x.nm.toArray⟩,.int .i64 1] w5 from by rw [<- hw5,<- hn4];exact (BxL.new 87 w2 [.string ⟨x.nm.toArray⟩,.int .i64 1]).keep (heap_ot (by rw [hn4];have:=HN4.out;omega) _))
 rw [hw5]
 clear hw5 hn4
 have HEW:=hid (HE.below HBW.out)
 have HPG:=hid (show PgV (·<w5.heap.size) w5 (.slice none 0 0) (.slice (some ⟨n4,0,none⟩) 1 1) (.slice (some ⟨bf,0,none⟩) 1 1) (.slice none 0 0) (aloneP x) from by
  have hk:=HKD.out
  unfold aloneP
  rw [if_neg (by omega),if_pos (by omega),if_neg (by omega)]
  exact ⟨SlG.nil,SlG.box HNB.out rfl HNB.lt,alone_fun x _ bi bf w5 (by omega) (HSL.below HBW.out) HI5.out HF5.out,SlG.nil⟩)
 have HOK:=hid (alone_ok x H8.out)
 obtain ⟨y0,y1,y2,y3,y4⟩:=HPB.p5
 cases hfb:formB x with
 | true =>
  have HFB:=hid hfb
  have hg:=alone_good x hfb
  have g4:((checkM (aloneP x)).2 == 4)=false:=by rw [beq_eq_false_iff_ne];exact hg.1
  have g5:((checkM (aloneP x)).2 == 5)=false:=by rw [beq_eq_false_iff_ne];exact hg.2
  have HM:=hid (show instrM x=(lineM x,0) from by unfold instrM;rw [if_pos hfb])
  clear hg hfb
  go_wp2_with (first
   | (go_at_call 34;(refine (check_any (aloneP x) _ _ _ _ _ HEW.out HPG.out HOK.out).mono ?_);rintro e w3 ⟨rfl,hb3⟩;have HB3:=hid (HBW.out.trans (hb3.mono HBW.out.size));have z0:∀ o,(w3.alloc o).cell? ⟨w.heap.size,0,none⟩=some (.int .u8 (x.kind:Int)):=fun o=>((HXW.out.bel hb3).al o).at 0 rfl;have z1:∀ o,(w3.alloc o).cell? ⟨w.heap.size,1,none⟩=some (.int .u8 (x.op:Int)):=fun o=>((HXW.out.bel hb3).al o).at 1 rfl;have z2:∀ o,(w3.alloc o).cell? ⟨w.heap.size,2,none⟩=some (.string ⟨x.dst.toArray⟩):=fun o=>((HXW.out.bel hb3).al o).at 2 rfl;have z3:∀ o,(w3.alloc o).cell? ⟨w.heap.size,3,none⟩=some (.string ⟨x.nm.toArray⟩):=fun o=>((HXW.out.bel hb3).al o).at 3 rfl;have z4:∀ o,(w3.alloc o).cell? ⟨w.heap.size,4,none⟩=some (.slice pa x.args.length ca):=fun o=>((HXW.out.bel hb3).al o).at 4 rfl;have z5:∀ o,(w3.alloc o).cell? ⟨w.heap.size,5,none⟩=some (.int .i64 x.pos.1):=fun o=>((HXW.out.bel hb3).al o).at 5 rfl;have z6:∀ o,(w3.alloc o).cell? ⟨w.heap.size,6,none⟩=some (.int .i64 x.pos.2):=fun o=>((HXW.out.bel hb3).al o).at 6 rfl;clear hb3)
   | (go_at_call 48;(refine (line_any x _ _ HFB.out HNU.out (HSL.out.below (HB3.out.alloc HB3.out.size _)) (HE.out.below (HB3.out.alloc HB3.out.size _))).mono ?_);rintro e w4 ⟨rfl,hb4⟩;have HB4:=hid ((HB3.out.alloc HB3.out.size _).trans (hb4.mono (HB3.out.alloc HB3.out.size _).size));clear hb4))
  go_ret2
  exact ⟨by rw [HM.out];rfl,HB4.out⟩
 | false =>
  have g4:((checkM (aloneP x)).2 == 4)=true:=by rw [alone_bad x hfb];rfl
  have HM:=hid (show instrM x=([],4) from by unfold instrM;rw [if_neg (by rw [hfb];decide)])
  clear hfb
  go_wp2_with (go_at_call 34;(refine (check_any (aloneP x) _ _ _ _ _ HEW.out HPG.out HOK.out).mono ?_);rintro e w3 ⟨rfl,hb3⟩;have HB3:=hid (HBW.out.trans (hb3.mono HBW.out.size));have z0:∀ o,(w3.alloc o).cell? ⟨w.heap.size,0,none⟩=some (.int .u8 (x.kind:Int)):=fun o=>((HXW.out.bel hb3).al o).at 0 rfl;have z1:∀ o,(w3.alloc o).cell? ⟨w.heap.size,1,none⟩=some (.int .u8 (x.op:Int)):=fun o=>((HXW.out.bel hb3).al o).at 1 rfl;have z2:∀ o,(w3.alloc o).cell? ⟨w.heap.size,2,none⟩=some (.string ⟨x.dst.toArray⟩):=fun o=>((HXW.out.bel hb3).al o).at 2 rfl;have z3:∀ o,(w3.alloc o).cell? ⟨w.heap.size,3,none⟩=some (.string ⟨x.nm.toArray⟩):=fun o=>((HXW.out.bel hb3).al o).at 3 rfl;have z4:∀ o,(w3.alloc o).cell? ⟨w.heap.size,4,none⟩=some (.slice pa x.args.length ca):=fun o=>((HXW.out.bel hb3).al o).at 4 rfl;have z5:∀ o,(w3.alloc o).cell? ⟨w.heap.size,5,none⟩=some (.int .i64 x.pos.1):=fun o=>((HXW.out.bel hb3).al o).at 5 rfl;have z6:∀ o,(w3.alloc o).cell? ⟨w.heap.size,6,none⟩=some (.int .i64 x.pos.2):=fun o=>((HXW.out.bel hb3).al o).at 6 rfl;clear hb3)
  go_ret2
  exact ⟨by rw [HM.out];rfl,HB3.alloc HB3.size _⟩
end Go.Proofs.YtoofbgoeipijcaaGreatDoor
