/-
 A part.
-/
import Derived.Test.YtoofbgoeipijcaaGreatDoorVB24
namespace Go.Proofs.YtoofbgoeipijcaaGreatDoor
set_option maxRecDepth 100000
set_option maxHeartbeats 4000000
set_option linter.all false
open Go.RowKit Go.Shelf
attribute [local go_sem] Oper.semAt_some
theorem all_step {args:List Ag} {k:Nat} (hk:k<args.length):(args.drop k).all argB=(argB args[k] && (args.drop (k+1)).all argB):=by
 rw [List.drop_eq_getElem_cons hk,List.all_cons]
theorem form_sig (kd n op:Nat) (dst nm:Bs) (args:List Ag) (pos:Int × Int) (D N:Bool) (hk:kd<13) (h1:kd ≠ 1) (hf:fieldsL.getD kd (false,false,0)=(D,N,(n:Int))) (hn:n<=32) :
  formB ⟨kd,op,dst,nm,args,pos⟩=(decide (op=0) && fieldB D dst && fieldB N nm && decide (args.length=n) && args.all argB):=by
 unfold formB opOkB wantM
 simp only [hf,if_neg h1,decide_eq_true hk,Bool.true_and]
 by_cases hl:args.length=n
 ·rw [decide_eq_true hl,decide_eq_true (show (args.length:Int)=(n:Int) by omega),decide_eq_true (show args.length<=32 by omega)];simp
 ·rw [decide_eq_false hl,decide_eq_false (show ¬ (args.length:Int)=(n:Int) by omega),decide_eq_false (show ¬ (n:Int)<0 by omega)];simp
theorem rform_gtf (kd n:Nat) (hk1:kd ≠ 1) (hk4:kd ≠ 4) (hfl:∀ w,Calls Tryz.prog 137 #[.int .u8 (kd:Int)] w fun e w'=>e=.returned (.tuple #[.agg #[.bool true,.bool false,.int .i64 (n:Int)],.bool true])/\Below w.heap.size w w') (op:Nat) (dst nm:Bs) (args:List Ag) (pos:Int × Int) (v:Value) (w:World) (hop:op<=255) (hd:dst.length<=140737488355328) (hm:nm.length<=140737488355328) (ha:∀ a ∈ args,a.nm.length<=140737488355328) (h:SlG kAg (·<w.heap.size) w v args)
  (hfb:formB ⟨kd,op,dst,nm,args,pos⟩=(decide (op=0) && fieldB true dst && fieldB false nm && decide (args.length=n) && args.all argB)) :
  Calls Tryz.prog 96 #[.agg #[.int .u8 (kd:Int),.int .u8 (op:Int),.string ⟨dst.toArray⟩,.string ⟨nm.toArray⟩,v,.int .i64 pos.1,.int .i64 pos.2]] w fun e w'=>e=.returned (.bool (formB ⟨kd,op,dst,nm,args,pos⟩))/\Below w.heap.size w w':=by
 obtain ⟨pa,ca,rfl⟩:=h.slc
 rw [hfb]
 obtain ⟨R,hR⟩:∃ R,(decide (op=0) && fieldB true dst && fieldB false nm && decide (args.length=n) && args.all argB)=R:=⟨_,rfl⟩
 rw [hR]
 have HR:=hid hR;have HSL:=hid h;have HD:=hid hd;have HM:=hid hm;have HA:=hid ha;have HOP:=hid hop;have HFL:=hid hfl
 have k1:((kd:Int) == 1)=false:=beq_eq_false_iff_ne.2 (by omega)
 have k4:((kd:Int) == 4)=false:=beq_eq_false_iff_ne.2 (by omega)
 clear hR h hd hm ha hop hfl hfb hk1 hk4
 go_enter Tryz.func96,Tryz.ntmps96
 go_upto_region 1 with fail
 obtain ⟨wo,hwo⟩:∃ W,w.alloc (.cells #[.int .u8 (kd:Int),.int .u8 (op:Int),.string ⟨dst.toArray⟩,.string ⟨nm.toArray⟩,.slice pa args.length ca,.int .i64 pos.1,.int .i64 pos.2] 41)=W:=⟨_,rfl⟩
 have HX0:=hid (show BxL 41 w.heap.size [.int .u8 (kd:Int),.int .u8 (op:Int),.string ⟨dst.toArray⟩,.string ⟨nm.toArray⟩,.slice pa args.length ca,.int .i64 pos.1,.int .i64 pos.2] wo from by rw [<- hwo];exact BxL.new _ _ _)
 have HB0:=hid (show Below w.heap.size w wo from by rw [<- hwo];exact bA)
 rw [hwo]
 clear hwo
 have x0:wo.cell? ⟨w.heap.size,0,none⟩=some (.int .u8 (kd:Int)):=HX0.at 0 rfl
 go_upto_region 2 with (go_at_call 137;(refine (HFL.out _).mono ?_);rintro e w1 ⟨rfl,hb1⟩;have HB1:=hid (HB0.out.trans (hb1.mono HB0.out.size));have HX1:=hid (HX0.out.bel hb1);clear hb1)
 clear x0
 obtain ⟨b3,hb3⟩:∃ b,w1.heap.size=b:=⟨_,rfl⟩
 obtain ⟨w2,hw2⟩:∃ W,w1.alloc (.cells #[.bool true,.bool false,.int .i64 (n:Int)] 173)=W:=⟨_,rfl⟩
 have HBw2:=hid (show Below w.heap.size w w2 from by rw [<- hw2];exact HB1.alloc HB1.size _)
 have HXw2:=hid (show BxL 41 w.heap.size [.int .u8 (kd:Int),.int .u8 (op:Int),.string ⟨dst.toArray⟩,.string ⟨nm.toArray⟩,.slice pa args.length ca,.int .i64 pos.1,.int .i64 pos.2] w2 from by rw [<- hw2];exact HX1.al _)
 have HHw2:=hid (show BxL 173 b3 [.bool true,.bool false,.int .i64 (n:Int)] w2 from by rw [<- hw2,<- hb3];exact BxL.new _ _ _)
 rw [hw2,hb3]
 clear hw2 hb3
 obtain ⟨x0,x1,x2,x3,x4⟩:=HXw2.p5;obtain ⟨h0,h1⟩:=HHw2.p2
 have h2:w2.cell? ⟨b3,2,none⟩=some (.int .i64 (n:Int)):=HHw2.at 2 rfl
 by_cases hop:op=0
 case neg =>
  have HF:Hid (R=false):=hid (by rw [<- HR.out];simp [fieldB,hop])
  have z1:((op:Int) != 0)=true:=by simp;omega
  have z2:((op:Int) == 0)=false:=by simp;omega
  go_wp2_with fail
  go_ret
  exact ⟨by rw [HF.out];rfl,HBw2.out⟩
 have HOZ:=hid hop
 have z1:((op:Int) != 0)=false:=by simp;omega
 have z2:((op:Int) == 0)=true:=by simp;omega
 clear hop
 cases hndst:namedB dst with
 | false =>
  have HNdst:=hid hndst
  have HF:Hid (R=false):=hid (by rw [<- HR.out];simp [fieldB,HOZ.out,hndst])
  clear hndst
  go_wp2_with (first | (go_at_call 131;(with_reducible refine (rnamed_any dst _ HD.out).mono ?_);rw [HNdst.out];rintro e w3 ⟨rfl,hb⟩;have HBw3:=hid (HBw2.out.trans (hb.mono HBw2.out.size));have HXw3:=hid (HXw2.out.bel hb);have HHw3:=hid (HHw2.out.bel hb);clear hb;obtain ⟨x0,x1,x2,x3,x4⟩:=HXw3.out.p5;obtain ⟨h0,h1⟩:=HHw3.out.p2))
  go_ret
  exact ⟨by rw [HF.out];rfl,HBw3.out⟩
 | true =>
 have HNdst:=hid hndst
 clear hndst
 by_cases hznm:nm=[]
 case neg =>
  have HZnm:=hid hznm
  have HF:Hid (R=false):=hid (by rw [<- HR.out];simp [fieldB,HOZ.out,HNdst.out,hznm])
  have enm:nm.isEmpty=false:=by simpa using hznm
  clear hznm
  go_wp2_with (first | (go_at_call 131;(with_reducible refine (rnamed_any dst _ HD.out).mono ?_);rw [HNdst.out];rintro e w3 ⟨rfl,hb⟩;have HBw3:=hid (HBw2.out.trans (hb.mono HBw2.out.size));have HXw3:=hid (HXw2.out.bel hb);have HHw3:=hid (HHw2.out.bel hb);clear hb;obtain ⟨x0,x1,x2,x3,x4⟩:=HXw3.out.p5;obtain ⟨h0,h1⟩:=HHw3.out.p2))
  go_ret
  exact ⟨by rw [HF.out];rfl,HBw3.out⟩
 have HZnm:=hid hznm
 have enm:nm.isEmpty=true:=by rw [hznm];rfl
 clear hznm
 by_cases hl:args.length=n
 case neg =>
  have HL:=hid hl
  have HF:Hid (R=false):=hid (by rw [<- HR.out];simp [fieldB,HOZ.out,HNdst.out,HZnm.out,show ¬ ((args.length:Int)=(n:Int)) from by omega,hl])
  have l1:((args.length:Int) != (n:Int))=true:=bne_iff_ne.2 (by omega)
  have l2:((args.length:Int) == (n:Int))=false:=beq_eq_false_iff_ne.2 (by omega)
  clear hl
  go_wp2_with (first | (go_at_call 131;(with_reducible refine (rnamed_any dst _ HD.out).mono ?_);rw [HNdst.out];rintro e w3 ⟨rfl,hb⟩;have HBw3:=hid (HBw2.out.trans (hb.mono HBw2.out.size));have HXw3:=hid (HXw2.out.bel hb);have HHw3:=hid (HHw2.out.bel hb);clear hb;obtain ⟨x0,x1,x2,x3,x4⟩:=HXw3.out.p5;obtain ⟨h0,h1⟩:=HHw3.out.p2))
  go_ret
  exact ⟨by rw [HF.out];rfl,HBw3.out⟩
 have HL:=hid hl
 have HRA:Hid (R=args.all argB):=hid (by rw [<- HR.out];simp [fieldB,HOZ.out,HNdst.out,HZnm.out,hl])
 have l1:((args.length:Int) != (n:Int))=false:=by rw [show (args.length:Int)=(n:Int) from by omega];simp
 have l2:((args.length:Int) == (n:Int))=true:=by rw [show (args.length:Int)=(n:Int) from by omega];simp
 clear hl
 go_upto_region 15 with (first | (go_at_call 131;(with_reducible refine (rnamed_any dst _ HD.out).mono ?_);rw [HNdst.out];rintro e w3 ⟨rfl,hb⟩;have HBw3:=hid (HBw2.out.trans (hb.mono HBw2.out.size));have HXw3:=hid (HXw2.out.bel hb);have HHw3:=hid (HHw2.out.bel hb);clear hb;obtain ⟨x0,x1,x2,x3,x4⟩:=HXw3.out.p5;obtain ⟨h0,h1⟩:=HHw3.out.p2))
 go_wp2_with fail
 clear x0 x1 x2 x3 x4 h0 h1
 go_loopw [6,7] (fun iv v7 wr=>∃ k:Nat,k<=args.length/\iv=.int .i64 (k:Int)/\(args.drop k).all argB=R/\Below w.heap.size w wr/\BxL 41 w.heap.size [.int .u8 (kd:Int),.int .u8 (op:Int),.string ⟨dst.toArray⟩,.string ⟨nm.toArray⟩,.slice pa args.length ca,.int .i64 pos.1,.int .i64 pos.2] wr) (fun iv _ _=>args.length - (intOf iv).toNat)
 case atStart=>exact ⟨0,Nat.zero_le _,rfl,by rw [HRA.out];rfl,HBw3.out,HXw3.out⟩
 case round =>
  obtain ⟨wz,rfl⟩:∃ W:World,W=wr:=⟨_,rfl⟩
  obtain ⟨k,hk,rfl,hal,hbz,hxz⟩:=hrel
  have x4:wz.cell? ⟨w.heap.size,4,none⟩=some (.slice pa args.length ca):=hxz.at 4 rfl
  by_cases hlt:k<args.length
  ·obtain ⟨b,off,rfl,hRR,hcells⟩:=ag_at HSL.out (by omega:0<args.length)
   obtain ⟨c0,c1⟩:=hcells k hlt
   have d0:=(hbz.cell (p:=⟨b,off+k*2,none⟩) hRR).trans c0
   have d1:=(hbz.cell (p:=⟨b,off+k*2+1,none⟩) hRR).trans c1
   rw [all_step hlt] at hal
   have HSN:=hid hal;have HLT:=hid hlt;have HBZ:=hid hbz;have HXZ:=hid hxz
   have HAK:=hid (HA.out args[k] (List.getElem_mem hlt))
   clear hcells c0 c1 hRR hal hbz hxz
   generalize args[k]=a at *
   go_upto_region 19 with fail
   obtain ⟨b7,hb7⟩:∃ b,wz.heap.size=b:=⟨_,rfl⟩
   obtain ⟨wy,hwy⟩:∃ W,wz.alloc (.cells #[.string ⟨a.nm.toArray⟩,.int .u64 (a.num:Int)] 43)=W:=⟨_,rfl⟩
   have HBY:=hid (show Below w.heap.size w wy from by rw [<- hwy];exact HBZ.alloc HBZ.size _)
   have HXY:=hid (show BxL 41 w.heap.size [.int .u8 (kd:Int),.int .u8 (op:Int),.string ⟨dst.toArray⟩,.string ⟨nm.toArray⟩,.slice (some ⟨b,off,none⟩) args.length ca,.int .i64 pos.1,.int .i64 pos.2] wy from by rw [<- hwy];exact HXZ.al _)
   have HNY:=hid (show BxL 43 b7 [.string ⟨a.nm.toArray⟩,.int .u64 (a.num:Int)] wy from by rw [<- hwy,<- hb7];exact BxL.new _ _ _)
   rw [hwy,hb7]
   clear hwy hb7 d0 d1 x4
   have n0:wy.cell? ⟨b7,0,none⟩=some (.string ⟨a.nm.toArray⟩):=HNY.at 0 rfl
   by_cases hz:a.nm=[]
   ·have e1:a.nm.isEmpty=true:=by rw [hz];rfl
    have HST:=hid (show (args.drop (k+1)).all argB=R from by rw [<- HSN.out];unfold argB;simp [hz])
    clear hz hlt
    go_wp2_with fail
    go_roundw
    case rel=>exact ⟨k+1,HLT.out,by rw [wrap_next HLT.out HSL.len],HST.out,HBY.out,HXY.out⟩
    case measure=>exact meas_next HLT.out HSL.len
   ·have e1:a.nm.isEmpty=false:=by simpa using hz
    have HZ:=hid hz
    clear hz hlt
    cases hna:namedB a.nm with
    | false =>
     have HNA:=hid hna
     have HF:Hid (R=false):=hid (by rw [<- HSN.out];unfold argB;simp [HZ.out,hna])
     clear hna
     go_wp2_with (go_at_call 131;(with_reducible refine (rnamed_any a.nm _ HAK.out).mono ?_);rw [HNA.out];rintro e w5 ⟨rfl,hb⟩;have HB5:=hid (HBY.out.trans (hb.mono HBY.out.size));clear hb)
     go_ret
     exact ⟨by rw [HF.out];rfl,HB5.out⟩
    | true =>
     have HNA:=hid hna
     clear hna
     by_cases hu:a.num=0
     ·have u1:((a.num:Int) != 0)=false:=by simp;omega
      have u2:((a.num:Int) == 0)=true:=by simp;omega
      have HST:=hid (show (args.drop (k+1)).all argB=R from by rw [<- HSN.out];unfold argB;simp [HNA.out,hu])
      clear hu
      go_wp2_with (go_at_call 131;(with_reducible refine (rnamed_any a.nm _ HAK.out).mono ?_);rw [HNA.out];rintro e w5 ⟨rfl,hb⟩;have HB5:=hid (HBY.out.trans (hb.mono HBY.out.size));have HX5:=hid (HXY.out.bel hb);have n1:w5.cell? ⟨b7,1,none⟩=some (.int .u64 (a.num:Int)):=(HNY.out.bel hb).at 1 rfl;clear hb)
      go_roundw
      case rel=>exact ⟨k+1,HLT.out,by rw [wrap_next HLT.out HSL.len],HST.out,HB5.out,HX5.out⟩
      case measure=>exact meas_next HLT.out HSL.len
     ·have u1:((a.num:Int) != 0)=true:=by simp;omega
      have u2:((a.num:Int) == 0)=false:=by simp;omega
      have HF:Hid (R=false):=hid (by rw [<- HSN.out];unfold argB;simp [HZ.out,hu])
      clear hu
      go_wp2_with (go_at_call 131;(with_reducible refine (rnamed_any a.nm _ HAK.out).mono ?_);rw [HNA.out];rintro e w5 ⟨rfl,hb⟩;have HB5:=hid (HBY.out.trans (hb.mono HBY.out.size));have n1:w5.cell? ⟨b7,1,none⟩=some (.int .u64 (a.num:Int)):=(HNY.out.bel hb).at 1 rfl;clear hb)
      go_ret
      exact ⟨by rw [HF.out];rfl,HB5.out⟩
  ·obtain rfl:k=args.length:=by omega
   have HF:Hid (R=true):=hid (by rw [<- hal,List.drop_length];rfl)
   have HBZ:=hid hbz
   clear hlt hal hbz hxz
   go_wp2_with fail
   go_ret
   exact ⟨by rw [HF.out];rfl,HBZ.out⟩
theorem rform_gtt (kd n:Nat) (hk1:kd ≠ 1) (hk4:kd ≠ 4) (hfl:∀ w,Calls Tryz.prog 137 #[.int .u8 (kd:Int)] w fun e w'=>e=.returned (.tuple #[.agg #[.bool true,.bool true,.int .i64 (n:Int)],.bool true])/\Below w.heap.size w w') (op:Nat) (dst nm:Bs) (args:List Ag) (pos:Int × Int) (v:Value) (w:World) (hop:op<=255) (hd:dst.length<=140737488355328) (hm:nm.length<=140737488355328) (ha:∀ a ∈ args,a.nm.length<=140737488355328) (h:SlG kAg (·<w.heap.size) w v args)
  (hfb:formB ⟨kd,op,dst,nm,args,pos⟩=(decide (op=0) && fieldB true dst && fieldB true nm && decide (args.length=n) && args.all argB)) :
  Calls Tryz.prog 96 #[.agg #[.int .u8 (kd:Int),.int .u8 (op:Int),.string ⟨dst.toArray⟩,.string ⟨nm.toArray⟩,v,.int .i64 pos.1,.int .i64 pos.2]] w fun e w'=>e=.returned (.bool (formB ⟨kd,op,dst,nm,args,pos⟩))/\Below w.heap.size w w':=by
 obtain ⟨pa,ca,rfl⟩:=h.slc
 rw [hfb]
 obtain ⟨R,hR⟩:∃ R,(decide (op=0) && fieldB true dst && fieldB true nm && decide (args.length=n) && args.all argB)=R:=⟨_,rfl⟩
 rw [hR]
 have HR:=hid hR;have HSL:=hid h;have HD:=hid hd;have HM:=hid hm;have HA:=hid ha;have HOP:=hid hop;have HFL:=hid hfl
 have k1:((kd:Int) == 1)=false:=beq_eq_false_iff_ne.2 (by omega)
 have k4:((kd:Int) == 4)=false:=beq_eq_false_iff_ne.2 (by omega)
 clear hR h hd hm ha hop hfl hfb hk1 hk4
 go_enter Tryz.func96,Tryz.ntmps96
 go_upto_region 1 with fail
 obtain ⟨wo,hwo⟩:∃ W,w.alloc (.cells #[.int .u8 (kd:Int),.int .u8 (op:Int),.string ⟨dst.toArray⟩,.string ⟨nm.toArray⟩,.slice pa args.length ca,.int .i64 pos.1,.int .i64 pos.2] 41)=W:=⟨_,rfl⟩
 have HX0:=hid (show BxL 41 w.heap.size [.int .u8 (kd:Int),.int .u8 (op:Int),.string ⟨dst.toArray⟩,.string ⟨nm.toArray⟩,.slice pa args.length ca,.int .i64 pos.1,.int .i64 pos.2] wo from by rw [<- hwo];exact BxL.new _ _ _)
 have HB0:=hid (show Below w.heap.size w wo from by rw [<- hwo];exact bA)
 rw [hwo]
 clear hwo
 have x0:wo.cell? ⟨w.heap.size,0,none⟩=some (.int .u8 (kd:Int)):=HX0.at 0 rfl
 go_upto_region 2 with (go_at_call 137;(refine (HFL.out _).mono ?_);rintro e w1 ⟨rfl,hb1⟩;have HB1:=hid (HB0.out.trans (hb1.mono HB0.out.size));have HX1:=hid (HX0.out.bel hb1);clear hb1)
 clear x0
 obtain ⟨b3,hb3⟩:∃ b,w1.heap.size=b:=⟨_,rfl⟩
 obtain ⟨w2,hw2⟩:∃ W,w1.alloc (.cells #[.bool true,.bool true,.int .i64 (n:Int)] 173)=W:=⟨_,rfl⟩
 have HBw2:=hid (show Below w.heap.size w w2 from by rw [<- hw2];exact HB1.alloc HB1.size _)
 have HXw2:=hid (show BxL 41 w.heap.size [.int .u8 (kd:Int),.int .u8 (op:Int),.string ⟨dst.toArray⟩,.string ⟨nm.toArray⟩,.slice pa args.length ca,.int .i64 pos.1,.int .i64 pos.2] w2 from by rw [<- hw2];exact HX1.al _)
 have HHw2:=hid (show BxL 173 b3 [.bool true,.bool true,.int .i64 (n:Int)] w2 from by rw [<- hw2,<- hb3];exact BxL.new _ _ _)
 rw [hw2,hb3]
 clear hw2 hb3
 obtain ⟨x0,x1,x2,x3,x4⟩:=HXw2.p5;obtain ⟨h0,h1⟩:=HHw2.p2
 have h2:w2.cell? ⟨b3,2,none⟩=some (.int .i64 (n:Int)):=HHw2.at 2 rfl
 by_cases hop:op=0
 case neg =>
  have HF:Hid (R=false):=hid (by rw [<- HR.out];simp [fieldB,hop])
  have z1:((op:Int) != 0)=true:=by simp;omega
  have z2:((op:Int) == 0)=false:=by simp;omega
  go_wp2_with fail
  go_ret
  exact ⟨by rw [HF.out];rfl,HBw2.out⟩
 have HOZ:=hid hop
 have z1:((op:Int) != 0)=false:=by simp;omega
 have z2:((op:Int) == 0)=true:=by simp;omega
 clear hop
 cases hndst:namedB dst with
 | false =>
  have HNdst:=hid hndst
  have HF:Hid (R=false):=hid (by rw [<- HR.out];simp [fieldB,HOZ.out,hndst])
  clear hndst
  go_wp2_with (first | (go_at_call 131;(with_reducible refine (rnamed_any dst _ HD.out).mono ?_);rw [HNdst.out];rintro e w3 ⟨rfl,hb⟩;have HBw3:=hid (HBw2.out.trans (hb.mono HBw2.out.size));have HXw3:=hid (HXw2.out.bel hb);have HHw3:=hid (HHw2.out.bel hb);clear hb;obtain ⟨x0,x1,x2,x3,x4⟩:=HXw3.out.p5;obtain ⟨h0,h1⟩:=HHw3.out.p2))
  go_ret
  exact ⟨by rw [HF.out];rfl,HBw3.out⟩
 | true =>
 have HNdst:=hid hndst
 clear hndst
 cases hnnm:namedB nm with
 | false =>
  have HNnm:=hid hnnm
  have HF:Hid (R=false):=hid (by rw [<- HR.out];simp [fieldB,HOZ.out,HNdst.out,hnnm])
  clear hnnm
  go_wp2_with (first | (go_at_call 131;(with_reducible refine (rnamed_any dst _ HD.out).mono ?_);rw [HNdst.out];rintro e w3 ⟨rfl,hb⟩;have HBw3:=hid (HBw2.out.trans (hb.mono HBw2.out.size));have HXw3:=hid (HXw2.out.bel hb);have HHw3:=hid (HHw2.out.bel hb);clear hb;obtain ⟨x0,x1,x2,x3,x4⟩:=HXw3.out.p5;have h0:w3.cell? ⟨b3,0,none⟩=some (.bool true):=HHw3.out.at 0 rfl;have h1:w3.cell? ⟨b3,1,none⟩=some (.bool true):=HHw3.out.at 1 rfl) | (go_at_call 131;(with_reducible refine (rnamed_any nm _ HM.out).mono ?_);rw [HNnm.out];rintro e w4 ⟨rfl,hb⟩;have HBw4:=hid (HBw3.out.trans (hb.mono HBw3.out.size));have HXw4:=hid (HXw3.out.bel hb);have HHw4:=hid (HHw3.out.bel hb);clear hb;obtain ⟨x0,x1,x2,x3,x4⟩:=HXw4.out.p5;obtain ⟨h0,h1⟩:=HHw4.out.p2))
  go_ret
  exact ⟨by rw [HF.out];rfl,HBw4.out⟩
 | true =>
 have HNnm:=hid hnnm
 clear hnnm
 by_cases hl:args.length=n
 case neg =>
  have HL:=hid hl
  have HF:Hid (R=false):=hid (by rw [<- HR.out];simp [fieldB,HOZ.out,HNdst.out,HNnm.out,show ¬ ((args.length:Int)=(n:Int)) from by omega,hl])
  have l1:((args.length:Int) != (n:Int))=true:=bne_iff_ne.2 (by omega)
  have l2:((args.length:Int) == (n:Int))=false:=beq_eq_false_iff_ne.2 (by omega)
  clear hl
  go_wp2_with (first | (go_at_call 131;(with_reducible refine (rnamed_any dst _ HD.out).mono ?_);rw [HNdst.out];rintro e w3 ⟨rfl,hb⟩;have HBw3:=hid (HBw2.out.trans (hb.mono HBw2.out.size));have HXw3:=hid (HXw2.out.bel hb);have HHw3:=hid (HHw2.out.bel hb);clear hb;obtain ⟨x0,x1,x2,x3,x4⟩:=HXw3.out.p5;have h0:w3.cell? ⟨b3,0,none⟩=some (.bool true):=HHw3.out.at 0 rfl;have h1:w3.cell? ⟨b3,1,none⟩=some (.bool true):=HHw3.out.at 1 rfl) | (go_at_call 131;(with_reducible refine (rnamed_any nm _ HM.out).mono ?_);rw [HNnm.out];rintro e w4 ⟨rfl,hb⟩;have HBw4:=hid (HBw3.out.trans (hb.mono HBw3.out.size));have HXw4:=hid (HXw3.out.bel hb);have HHw4:=hid (HHw3.out.bel hb);clear hb;obtain ⟨x0,x1,x2,x3,x4⟩:=HXw4.out.p5;obtain ⟨h0,h1⟩:=HHw4.out.p2))
  go_ret
  exact ⟨by rw [HF.out];rfl,HBw4.out⟩
 have HL:=hid hl
 have HRA:Hid (R=args.all argB):=hid (by rw [<- HR.out];simp [fieldB,HOZ.out,HNdst.out,HNnm.out,hl])
 have l1:((args.length:Int) != (n:Int))=false:=by rw [show (args.length:Int)=(n:Int) from by omega];simp
 have l2:((args.length:Int) == (n:Int))=true:=by rw [show (args.length:Int)=(n:Int) from by omega];simp
 clear hl
 go_upto_region 15 with (first | (go_at_call 131;(with_reducible refine (rnamed_any dst _ HD.out).mono ?_);rw [HNdst.out];rintro e w3 ⟨rfl,hb⟩;have HBw3:=hid (HBw2.out.trans (hb.mono HBw2.out.size));have HXw3:=hid (HXw2.out.bel hb);have HHw3:=hid (HHw2.out.bel hb);clear hb;obtain ⟨x0,x1,x2,x3,x4⟩:=HXw3.out.p5;have h0:w3.cell? ⟨b3,0,none⟩=some (.bool true):=HHw3.out.at 0 rfl;have h1:w3.cell? ⟨b3,1,none⟩=some (.bool true):=HHw3.out.at 1 rfl) | (go_at_call 131;(with_reducible refine (rnamed_any nm _ HM.out).mono ?_);rw [HNnm.out];rintro e w4 ⟨rfl,hb⟩;have HBw4:=hid (HBw3.out.trans (hb.mono HBw3.out.size));have HXw4:=hid (HXw3.out.bel hb);have HHw4:=hid (HHw3.out.bel hb);clear hb;obtain ⟨x0,x1,x2,x3,x4⟩:=HXw4.out.p5;obtain ⟨h0,h1⟩:=HHw4.out.p2))
 go_wp2_with fail
 clear x0 x1 x2 x3 x4 h0 h1
 go_loopw [6,7] (fun iv v7 wr=>∃ k:Nat,k<=args.length/\iv=.int .i64 (k:Int)/\(args.drop k).all argB=R/\Below w.heap.size w wr/\BxL 41 w.heap.size [.int .u8 (kd:Int),.int .u8 (op:Int),.string ⟨dst.toArray⟩,.string ⟨nm.toArray⟩,.slice pa args.length ca,.int .i64 pos.1,.int .i64 pos.2] wr) (fun iv _ _=>args.length - (intOf iv).toNat)
 case atStart=>exact ⟨0,Nat.zero_le _,rfl,by rw [HRA.out];rfl,HBw4.out,HXw4.out⟩
 case round =>
  obtain ⟨wz,rfl⟩:∃ W:World,W=wr:=⟨_,rfl⟩
  obtain ⟨k,hk,rfl,hal,hbz,hxz⟩:=hrel
  have x4:wz.cell? ⟨w.heap.size,4,none⟩=some (.slice pa args.length ca):=hxz.at 4 rfl
  by_cases hlt:k<args.length
  ·obtain ⟨b,off,rfl,hRR,hcells⟩:=ag_at HSL.out (by omega:0<args.length)
   obtain ⟨c0,c1⟩:=hcells k hlt
   have d0:=(hbz.cell (p:=⟨b,off+k*2,none⟩) hRR).trans c0
   have d1:=(hbz.cell (p:=⟨b,off+k*2+1,none⟩) hRR).trans c1
   rw [all_step hlt] at hal
   have HSN:=hid hal;have HLT:=hid hlt;have HBZ:=hid hbz;have HXZ:=hid hxz
   have HAK:=hid (HA.out args[k] (List.getElem_mem hlt))
   clear hcells c0 c1 hRR hal hbz hxz
   generalize args[k]=a at *
   go_upto_region 19 with fail
   obtain ⟨b7,hb7⟩:∃ b,wz.heap.size=b:=⟨_,rfl⟩
   obtain ⟨wy,hwy⟩:∃ W,wz.alloc (.cells #[.string ⟨a.nm.toArray⟩,.int .u64 (a.num:Int)] 43)=W:=⟨_,rfl⟩
   have HBY:=hid (show Below w.heap.size w wy from by rw [<- hwy];exact HBZ.alloc HBZ.size _)
   have HXY:=hid (show BxL 41 w.heap.size [.int .u8 (kd:Int),.int .u8 (op:Int),.string ⟨dst.toArray⟩,.string ⟨nm.toArray⟩,.slice (some ⟨b,off,none⟩) args.length ca,.int .i64 pos.1,.int .i64 pos.2] wy from by rw [<- hwy];exact HXZ.al _)
   have HNY:=hid (show BxL 43 b7 [.string ⟨a.nm.toArray⟩,.int .u64 (a.num:Int)] wy from by rw [<- hwy,<- hb7];exact BxL.new _ _ _)
   rw [hwy,hb7]
   clear hwy hb7 d0 d1 x4
   have n0:wy.cell? ⟨b7,0,none⟩=some (.string ⟨a.nm.toArray⟩):=HNY.at 0 rfl
   by_cases hz:a.nm=[]
   ·have e1:a.nm.isEmpty=true:=by rw [hz];rfl
    have HST:=hid (show (args.drop (k+1)).all argB=R from by rw [<- HSN.out];unfold argB;simp [hz])
    clear hz hlt
    go_wp2_with fail
    go_roundw
    case rel=>exact ⟨k+1,HLT.out,by rw [wrap_next HLT.out HSL.len],HST.out,HBY.out,HXY.out⟩
    case measure=>exact meas_next HLT.out HSL.len
   ·have e1:a.nm.isEmpty=false:=by simpa using hz
    have HZ:=hid hz
    clear hz hlt
    cases hna:namedB a.nm with
    | false =>
     have HNA:=hid hna
     have HF:Hid (R=false):=hid (by rw [<- HSN.out];unfold argB;simp [HZ.out,hna])
     clear hna
     go_wp2_with (go_at_call 131;(with_reducible refine (rnamed_any a.nm _ HAK.out).mono ?_);rw [HNA.out];rintro e w5 ⟨rfl,hb⟩;have HB5:=hid (HBY.out.trans (hb.mono HBY.out.size));clear hb)
     go_ret
     exact ⟨by rw [HF.out];rfl,HB5.out⟩
    | true =>
     have HNA:=hid hna
     clear hna
     by_cases hu:a.num=0
     ·have u1:((a.num:Int) != 0)=false:=by simp;omega
      have u2:((a.num:Int) == 0)=true:=by simp;omega
      have HST:=hid (show (args.drop (k+1)).all argB=R from by rw [<- HSN.out];unfold argB;simp [HNA.out,hu])
      clear hu
      go_wp2_with (go_at_call 131;(with_reducible refine (rnamed_any a.nm _ HAK.out).mono ?_);rw [HNA.out];rintro e w5 ⟨rfl,hb⟩;have HB5:=hid (HBY.out.trans (hb.mono HBY.out.size));have HX5:=hid (HXY.out.bel hb);have n1:w5.cell? ⟨b7,1,none⟩=some (.int .u64 (a.num:Int)):=(HNY.out.bel hb).at 1 rfl;clear hb)
      go_roundw
      case rel=>exact ⟨k+1,HLT.out,by rw [wrap_next HLT.out HSL.len],HST.out,HB5.out,HX5.out⟩
      case measure=>exact meas_next HLT.out HSL.len
     ·have u1:((a.num:Int) != 0)=true:=by simp;omega
      have u2:((a.num:Int) == 0)=false:=by simp;omega
      have HF:Hid (R=false):=hid (by rw [<- HSN.out];unfold argB;simp [HZ.out,hu])
      clear hu
      go_wp2_with (go_at_call 131;(with_reducible refine (rnamed_any a.nm _ HAK.out).mono ?_);rw [HNA.out];rintro e w5 ⟨rfl,hb⟩;have HB5:=hid (HBY.out.trans (hb.mono HBY.out.size));have n1:w5.cell? ⟨b7,1,none⟩=some (.int .u64 (a.num:Int)):=(HNY.out.bel hb).at 1 rfl;clear hb)
      go_ret
      exact ⟨by rw [HF.out];rfl,HB5.out⟩
  ·obtain rfl:k=args.length:=by omega
   have HF:Hid (R=true):=hid (by rw [<- hal,List.drop_length];rfl)
   have HBZ:=hid hbz
   clear hlt hal hbz hxz
   go_wp2_with fail
   go_ret
   exact ⟨by rw [HF.out];rfl,HBZ.out⟩
theorem rform_gft (kd n:Nat) (hk1:kd ≠ 1) (hk4:kd ≠ 4) (hfl:∀ w,Calls Tryz.prog 137 #[.int .u8 (kd:Int)] w fun e w'=>e=.returned (.tuple #[.agg #[.bool false,.bool true,.int .i64 (n:Int)],.bool true])/\Below w.heap.size w w') (op:Nat) (dst nm:Bs) (args:List Ag) (pos:Int × Int) (v:Value) (w:World) (hop:op<=255) (hd:dst.length<=140737488355328) (hm:nm.length<=140737488355328) (ha:∀ a ∈ args,a.nm.length<=140737488355328) (h:SlG kAg (·<w.heap.size) w v args)
  (hfb:formB ⟨kd,op,dst,nm,args,pos⟩=(decide (op=0) && fieldB false dst && fieldB true nm && decide (args.length=n) && args.all argB)) :
  Calls Tryz.prog 96 #[.agg #[.int .u8 (kd:Int),.int .u8 (op:Int),.string ⟨dst.toArray⟩,.string ⟨nm.toArray⟩,v,.int .i64 pos.1,.int .i64 pos.2]] w fun e w'=>e=.returned (.bool (formB ⟨kd,op,dst,nm,args,pos⟩))/\Below w.heap.size w w':=by
 obtain ⟨pa,ca,rfl⟩:=h.slc
 rw [hfb]
 obtain ⟨R,hR⟩:∃ R,(decide (op=0) && fieldB false dst && fieldB true nm && decide (args.length=n) && args.all argB)=R:=⟨_,rfl⟩
 rw [hR]
 have HR:=hid hR;have HSL:=hid h;have HD:=hid hd;have HM:=hid hm;have HA:=hid ha;have HOP:=hid hop;have HFL:=hid hfl
 have k1:((kd:Int) == 1)=false:=beq_eq_false_iff_ne.2 (by omega)
 have k4:((kd:Int) == 4)=false:=beq_eq_false_iff_ne.2 (by omega)
 clear hR h hd hm ha hop hfl hfb hk1 hk4
 go_enter Tryz.func96,Tryz.ntmps96
 go_upto_region 1 with fail
 obtain ⟨wo,hwo⟩:∃ W,w.alloc (.cells #[.int .u8 (kd:Int),.int .u8 (op:Int),.string ⟨dst.toArray⟩,.string ⟨nm.toArray⟩,.slice pa args.length ca,.int .i64 pos.1,.int .i64 pos.2] 41)=W:=⟨_,rfl⟩
 have HX0:=hid (show BxL 41 w.heap.size [.int .u8 (kd:Int),.int .u8 (op:Int),.string ⟨dst.toArray⟩,.string ⟨nm.toArray⟩,.slice pa args.length ca,.int .i64 pos.1,.int .i64 pos.2] wo from by rw [<- hwo];exact BxL.new _ _ _)
 have HB0:=hid (show Below w.heap.size w wo from by rw [<- hwo];exact bA)
 rw [hwo]
 clear hwo
 have x0:wo.cell? ⟨w.heap.size,0,none⟩=some (.int .u8 (kd:Int)):=HX0.at 0 rfl
 go_upto_region 2 with (go_at_call 137;(refine (HFL.out _).mono ?_);rintro e w1 ⟨rfl,hb1⟩;have HB1:=hid (HB0.out.trans (hb1.mono HB0.out.size));have HX1:=hid (HX0.out.bel hb1);clear hb1)
 clear x0
 obtain ⟨b3,hb3⟩:∃ b,w1.heap.size=b:=⟨_,rfl⟩
 obtain ⟨w2,hw2⟩:∃ W,w1.alloc (.cells #[.bool false,.bool true,.int .i64 (n:Int)] 173)=W:=⟨_,rfl⟩
 have HBw2:=hid (show Below w.heap.size w w2 from by rw [<- hw2];exact HB1.alloc HB1.size _)
 have HXw2:=hid (show BxL 41 w.heap.size [.int .u8 (kd:Int),.int .u8 (op:Int),.string ⟨dst.toArray⟩,.string ⟨nm.toArray⟩,.slice pa args.length ca,.int .i64 pos.1,.int .i64 pos.2] w2 from by rw [<- hw2];exact HX1.al _)
 have HHw2:=hid (show BxL 173 b3 [.bool false,.bool true,.int .i64 (n:Int)] w2 from by rw [<- hw2,<- hb3];exact BxL.new _ _ _)
 rw [hw2,hb3]
 clear hw2 hb3
 obtain ⟨x0,x1,x2,x3,x4⟩:=HXw2.p5;obtain ⟨h0,h1⟩:=HHw2.p2
 have h2:w2.cell? ⟨b3,2,none⟩=some (.int .i64 (n:Int)):=HHw2.at 2 rfl
 by_cases hop:op=0
 case neg =>
  have HF:Hid (R=false):=hid (by rw [<- HR.out];simp [fieldB,hop])
  have z1:((op:Int) != 0)=true:=by simp;omega
  have z2:((op:Int) == 0)=false:=by simp;omega
  go_wp2_with fail
  go_ret
  exact ⟨by rw [HF.out];rfl,HBw2.out⟩
 have HOZ:=hid hop
 have z1:((op:Int) != 0)=false:=by simp;omega
 have z2:((op:Int) == 0)=true:=by simp;omega
 clear hop
 by_cases hzdst:dst=[]
 case neg =>
  have HZdst:=hid hzdst
  have HF:Hid (R=false):=hid (by rw [<- HR.out];simp [fieldB,HOZ.out,hzdst])
  have edst:dst.isEmpty=false:=by simpa using hzdst
  clear hzdst
  go_wp2_with fail
  go_ret
  exact ⟨by rw [HF.out];rfl,HBw2.out⟩
 have HZdst:=hid hzdst
 have edst:dst.isEmpty=true:=by rw [hzdst];rfl
 clear hzdst
 cases hnnm:namedB nm with
 | false =>
  have HNnm:=hid hnnm
  have HF:Hid (R=false):=hid (by rw [<- HR.out];simp [fieldB,HOZ.out,HZdst.out,hnnm])
  clear hnnm
  go_wp2_with (first | (go_at_call 131;(with_reducible refine (rnamed_any nm _ HM.out).mono ?_);rw [HNnm.out];rintro e w3 ⟨rfl,hb⟩;have HBw3:=hid (HBw2.out.trans (hb.mono HBw2.out.size));have HXw3:=hid (HXw2.out.bel hb);have HHw3:=hid (HHw2.out.bel hb);clear hb;obtain ⟨x0,x1,x2,x3,x4⟩:=HXw3.out.p5;obtain ⟨h0,h1⟩:=HHw3.out.p2))
  go_ret
  exact ⟨by rw [HF.out];rfl,HBw3.out⟩
 | true =>
 have HNnm:=hid hnnm
 clear hnnm
 by_cases hl:args.length=n
 case neg =>
  have HL:=hid hl
  have HF:Hid (R=false):=hid (by rw [<- HR.out];simp [fieldB,HOZ.out,HZdst.out,HNnm.out,show ¬ ((args.length:Int)=(n:Int)) from by omega,hl])
  have l1:((args.length:Int) != (n:Int))=true:=bne_iff_ne.2 (by omega)
  have l2:((args.length:Int) == (n:Int))=false:=beq_eq_false_iff_ne.2 (by omega)
  clear hl
  go_wp2_with (first | (go_at_call 131;(with_reducible refine (rnamed_any nm _ HM.out).mono ?_);rw [HNnm.out];rintro e w3 ⟨rfl,hb⟩;have HBw3:=hid (HBw2.out.trans (hb.mono HBw2.out.size));have HXw3:=hid (HXw2.out.bel hb);have HHw3:=hid (HHw2.out.bel hb);clear hb;obtain ⟨x0,x1,x2,x3,x4⟩:=HXw3.out.p5;obtain ⟨h0,h1⟩:=HHw3.out.p2))
  go_ret
  exact ⟨by rw [HF.out];rfl,HBw3.out⟩
 have HL:=hid hl
 have HRA:Hid (R=args.all argB):=hid (by rw [<- HR.out];simp [fieldB,HOZ.out,HZdst.out,HNnm.out,hl])
 have l1:((args.length:Int) != (n:Int))=false:=by rw [show (args.length:Int)=(n:Int) from by omega];simp
 have l2:((args.length:Int) == (n:Int))=true:=by rw [show (args.length:Int)=(n:Int) from by omega];simp
 clear hl
 go_upto_region 15 with (first | (go_at_call 131;(with_reducible refine (rnamed_any nm _ HM.out).mono ?_);rw [HNnm.out];rintro e w3 ⟨rfl,hb⟩;have HBw3:=hid (HBw2.out.trans (hb.mono HBw2.out.size));have HXw3:=hid (HXw2.out.bel hb);have HHw3:=hid (HHw2.out.bel hb);clear hb;obtain ⟨x0,x1,x2,x3,x4⟩:=HXw3.out.p5;obtain ⟨h0,h1⟩:=HHw3.out.p2))
 go_wp2_with fail
 clear x0 x1 x2 x3 x4 h0 h1
 go_loopw [6,7] (fun iv v7 wr=>∃ k:Nat,k<=args.length/\iv=.int .i64 (k:Int)/\(args.drop k).all argB=R/\Below w.heap.size w wr/\BxL 41 w.heap.size [.int .u8 (kd:Int),.int .u8 (op:Int),.string ⟨dst.toArray⟩,.string ⟨nm.toArray⟩,.slice pa args.length ca,.int .i64 pos.1,.int .i64 pos.2] wr) (fun iv _ _=>args.length - (intOf iv).toNat)
 case atStart=>exact ⟨0,Nat.zero_le _,rfl,by rw [HRA.out];rfl,HBw3.out,HXw3.out⟩
 case round =>
  obtain ⟨wz,rfl⟩:∃ W:World,W=wr:=⟨_,rfl⟩
  obtain ⟨k,hk,rfl,hal,hbz,hxz⟩:=hrel
  have x4:wz.cell? ⟨w.heap.size,4,none⟩=some (.slice pa args.length ca):=hxz.at 4 rfl
  by_cases hlt:k<args.length
  ·obtain ⟨b,off,rfl,hRR,hcells⟩:=ag_at HSL.out (by omega:0<args.length)
   obtain ⟨c0,c1⟩:=hcells k hlt
   have d0:=(hbz.cell (p:=⟨b,off+k*2,none⟩) hRR).trans c0
   have d1:=(hbz.cell (p:=⟨b,off+k*2+1,none⟩) hRR).trans c1
   rw [all_step hlt] at hal
   have HSN:=hid hal;have HLT:=hid hlt;have HBZ:=hid hbz;have HXZ:=hid hxz
   have HAK:=hid (HA.out args[k] (List.getElem_mem hlt))
   clear hcells c0 c1 hRR hal hbz hxz
   generalize args[k]=a at *
   go_upto_region 19 with fail
   obtain ⟨b7,hb7⟩:∃ b,wz.heap.size=b:=⟨_,rfl⟩
   obtain ⟨wy,hwy⟩:∃ W,wz.alloc (.cells #[.string ⟨a.nm.toArray⟩,.int .u64 (a.num:Int)] 43)=W:=⟨_,rfl⟩
   have HBY:=hid (show Below w.heap.size w wy from by rw [<- hwy];exact HBZ.alloc HBZ.size _)
   have HXY:=hid (show BxL 41 w.heap.size [.int .u8 (kd:Int),.int .u8 (op:Int),.string ⟨dst.toArray⟩,.string ⟨nm.toArray⟩,.slice (some ⟨b,off,none⟩) args.length ca,.int .i64 pos.1,.int .i64 pos.2] wy from by rw [<- hwy];exact HXZ.al _)
   have HNY:=hid (show BxL 43 b7 [.string ⟨a.nm.toArray⟩,.int .u64 (a.num:Int)] wy from by rw [<- hwy,<- hb7];exact BxL.new _ _ _)
   rw [hwy,hb7]
   clear hwy hb7 d0 d1 x4
   have n0:wy.cell? ⟨b7,0,none⟩=some (.string ⟨a.nm.toArray⟩):=HNY.at 0 rfl
   by_cases hz:a.nm=[]
   ·have e1:a.nm.isEmpty=true:=by rw [hz];rfl
    have HST:=hid (show (args.drop (k+1)).all argB=R from by rw [<- HSN.out];unfold argB;simp [hz])
    clear hz hlt
    go_wp2_with fail
    go_roundw
    case rel=>exact ⟨k+1,HLT.out,by rw [wrap_next HLT.out HSL.len],HST.out,HBY.out,HXY.out⟩
    case measure=>exact meas_next HLT.out HSL.len
   ·have e1:a.nm.isEmpty=false:=by simpa using hz
    have HZ:=hid hz
    clear hz hlt
    cases hna:namedB a.nm with
    | false =>
     have HNA:=hid hna
     have HF:Hid (R=false):=hid (by rw [<- HSN.out];unfold argB;simp [HZ.out,hna])
     clear hna
     go_wp2_with (go_at_call 131;(with_reducible refine (rnamed_any a.nm _ HAK.out).mono ?_);rw [HNA.out];rintro e w5 ⟨rfl,hb⟩;have HB5:=hid (HBY.out.trans (hb.mono HBY.out.size));clear hb)
     go_ret
     exact ⟨by rw [HF.out];rfl,HB5.out⟩
    | true =>
     have HNA:=hid hna
     clear hna
     by_cases hu:a.num=0
     ·have u1:((a.num:Int) != 0)=false:=by simp;omega
      have u2:((a.num:Int) == 0)=true:=by simp;omega
      have HST:=hid (show (args.drop (k+1)).all argB=R from by rw [<- HSN.out];unfold argB;simp [HNA.out,hu])
      clear hu
      go_wp2_with (go_at_call 131;(with_reducible refine (rnamed_any a.nm _ HAK.out).mono ?_);rw [HNA.out];rintro e w5 ⟨rfl,hb⟩;have HB5:=hid (HBY.out.trans (hb.mono HBY.out.size));have HX5:=hid (HXY.out.bel hb);have n1:w5.cell? ⟨b7,1,none⟩=some (.int .u64 (a.num:Int)):=(HNY.out.bel hb).at 1 rfl;clear hb)
      go_roundw
      case rel=>exact ⟨k+1,HLT.out,by rw [wrap_next HLT.out HSL.len],HST.out,HB5.out,HX5.out⟩
      case measure=>exact meas_next HLT.out HSL.len
     ·have u1:((a.num:Int) != 0)=true:=by simp;omega
      have u2:((a.num:Int) == 0)=false:=by simp;omega
      have HF:Hid (R=false):=hid (by rw [<- HSN.out];unfold argB;simp [HZ.out,hu])
      clear hu
      go_wp2_with (go_at_call 131;(with_reducible refine (rnamed_any a.nm _ HAK.out).mono ?_);rw [HNA.out];rintro e w5 ⟨rfl,hb⟩;have HB5:=hid (HBY.out.trans (hb.mono HBY.out.size));have n1:w5.cell? ⟨b7,1,none⟩=some (.int .u64 (a.num:Int)):=(HNY.out.bel hb).at 1 rfl;clear hb)
      go_ret
      exact ⟨by rw [HF.out];rfl,HB5.out⟩
  ·obtain rfl:k=args.length:=by omega
   have HF:Hid (R=true):=hid (by rw [<- hal,List.drop_length];rfl)
   have HBZ:=hid hbz
   clear hlt hal hbz hxz
   go_wp2_with fail
   go_ret
   exact ⟨by rw [HF.out];rfl,HBZ.out⟩
theorem rform_gff (kd n:Nat) (hk1:kd ≠ 1) (hk4:kd ≠ 4) (hfl:∀ w,Calls Tryz.prog 137 #[.int .u8 (kd:Int)] w fun e w'=>e=.returned (.tuple #[.agg #[.bool false,.bool false,.int .i64 (n:Int)],.bool true])/\Below w.heap.size w w') (op:Nat) (dst nm:Bs) (args:List Ag) (pos:Int × Int) (v:Value) (w:World) (hop:op<=255) (hd:dst.length<=140737488355328) (hm:nm.length<=140737488355328) (ha:∀ a ∈ args,a.nm.length<=140737488355328) (h:SlG kAg (·<w.heap.size) w v args)
  (hfb:formB ⟨kd,op,dst,nm,args,pos⟩=(decide (op=0) && fieldB false dst && fieldB false nm && decide (args.length=n) && args.all argB)) :
  Calls Tryz.prog 96 #[.agg #[.int .u8 (kd:Int),.int .u8 (op:Int),.string ⟨dst.toArray⟩,.string ⟨nm.toArray⟩,v,.int .i64 pos.1,.int .i64 pos.2]] w fun e w'=>e=.returned (.bool (formB ⟨kd,op,dst,nm,args,pos⟩))/\Below w.heap.size w w':=by
 obtain ⟨pa,ca,rfl⟩:=h.slc
 rw [hfb]
 obtain ⟨R,hR⟩:∃ R,(decide (op=0) && fieldB false dst && fieldB false nm && decide (args.length=n) && args.all argB)=R:=⟨_,rfl⟩
 rw [hR]
 have HR:=hid hR;have HSL:=hid h;have HD:=hid hd;have HM:=hid hm;have HA:=hid ha;have HOP:=hid hop;have HFL:=hid hfl
 have k1:((kd:Int) == 1)=false:=beq_eq_false_iff_ne.2 (by omega)
 have k4:((kd:Int) == 4)=false:=beq_eq_false_iff_ne.2 (by omega)
 clear hR h hd hm ha hop hfl hfb hk1 hk4
 go_enter Tryz.func96,Tryz.ntmps96
 go_upto_region 1 with fail
 obtain ⟨wo,hwo⟩:∃ W,w.alloc (.cells #[.int .u8 (kd:Int),.int .u8 (op:Int),.string ⟨dst.toArray⟩,.string ⟨nm.toArray⟩,.slice pa args.length ca,.int .i64 pos.1,.int .i64 pos.2] 41)=W:=⟨_,rfl⟩
 have HX0:=hid (show BxL 41 w.heap.size [.int .u8 (kd:Int),.int .u8 (op:Int),.string ⟨dst.toArray⟩,.string ⟨nm.toArray⟩,.slice pa args.length ca,.int .i64 pos.1,.int .i64 pos.2] wo from by rw [<- hwo];exact BxL.new _ _ _)
 have HB0:=hid (show Below w.heap.size w wo from by rw [<- hwo];exact bA)
 rw [hwo]
 clear hwo
 have x0:wo.cell? ⟨w.heap.size,0,none⟩=some (.int .u8 (kd:Int)):=HX0.at 0 rfl
 go_upto_region 2 with (go_at_call 137;(refine (HFL.out _).mono ?_);rintro e w1 ⟨rfl,hb1⟩;have HB1:=hid (HB0.out.trans (hb1.mono HB0.out.size));have HX1:=hid (HX0.out.bel hb1);clear hb1)
 clear x0
 obtain ⟨b3,hb3⟩:∃ b,w1.heap.size=b:=⟨_,rfl⟩
 obtain ⟨w2,hw2⟩:∃ W,w1.alloc (.cells #[.bool false,.bool false,.int .i64 (n:Int)] 173)=W:=⟨_,rfl⟩
 have HBw2:=hid (show Below w.heap.size w w2 from by rw [<- hw2];exact HB1.alloc HB1.size _)
 have HXw2:=hid (show BxL 41 w.heap.size [.int .u8 (kd:Int),.int .u8 (op:Int),.string ⟨dst.toArray⟩,.string ⟨nm.toArray⟩,.slice pa args.length ca,.int .i64 pos.1,.int .i64 pos.2] w2 from by rw [<- hw2];exact HX1.al _)
 have HHw2:=hid (show BxL 173 b3 [.bool false,.bool false,.int .i64 (n:Int)] w2 from by rw [<- hw2,<- hb3];exact BxL.new _ _ _)
 rw [hw2,hb3]
 clear hw2 hb3
 obtain ⟨x0,x1,x2,x3,x4⟩:=HXw2.p5;obtain ⟨h0,h1⟩:=HHw2.p2
 have h2:w2.cell? ⟨b3,2,none⟩=some (.int .i64 (n:Int)):=HHw2.at 2 rfl
 by_cases hop:op=0
 case neg =>
  have HF:Hid (R=false):=hid (by rw [<- HR.out];simp [fieldB,hop])
  have z1:((op:Int) != 0)=true:=by simp;omega
  have z2:((op:Int) == 0)=false:=by simp;omega
  go_wp2_with fail
  go_ret
  exact ⟨by rw [HF.out];rfl,HBw2.out⟩
 have HOZ:=hid hop
 have z1:((op:Int) != 0)=false:=by simp;omega
 have z2:((op:Int) == 0)=true:=by simp;omega
 clear hop
 by_cases hzdst:dst=[]
 case neg =>
  have HZdst:=hid hzdst
  have HF:Hid (R=false):=hid (by rw [<- HR.out];simp [fieldB,HOZ.out,hzdst])
  have edst:dst.isEmpty=false:=by simpa using hzdst
  clear hzdst
  go_wp2_with fail
  go_ret
  exact ⟨by rw [HF.out];rfl,HBw2.out⟩
 have HZdst:=hid hzdst
 have edst:dst.isEmpty=true:=by rw [hzdst];rfl
 clear hzdst
 by_cases hznm:nm=[]
 case neg =>
  have HZnm:=hid hznm
  have HF:Hid (R=false):=hid (by rw [<- HR.out];simp [fieldB,HOZ.out,HZdst.out,hznm])
  have enm:nm.isEmpty=false:=by simpa using hznm
  clear hznm
  go_wp2_with fail
  go_ret
  exact ⟨by rw [HF.out];rfl,HBw2.out⟩
 have HZnm:=hid hznm
 have enm:nm.isEmpty=true:=by rw [hznm];rfl
 clear hznm
 by_cases hl:args.length=n
 case neg =>
  have HL:=hid hl
  have HF:Hid (R=false):=hid (by rw [<- HR.out];simp [fieldB,HOZ.out,HZdst.out,HZnm.out,show ¬ ((args.length:Int)=(n:Int)) from by omega,hl])
  have l1:((args.length:Int) != (n:Int))=true:=bne_iff_ne.2 (by omega)
  have l2:((args.length:Int) == (n:Int))=false:=beq_eq_false_iff_ne.2 (by omega)
  clear hl
  go_wp2_with fail
  go_ret
  exact ⟨by rw [HF.out];rfl,HBw2.out⟩
 have HL:=hid hl
 have HRA:Hid (R=args.all argB):=hid (by rw [<- HR.out];simp [fieldB,HOZ.out,HZdst.out,HZnm.out,hl])
 have l1:((args.length:Int) != (n:Int))=false:=by rw [show (args.length:Int)=(n:Int) from by omega];simp
 have l2:((args.length:Int) == (n:Int))=true:=by rw [show (args.length:Int)=(n:Int) from by omega];simp
 clear hl
 go_upto_region 15 with fail
 go_wp2_with fail
 clear x0 x1 x2 x3 x4 h0 h1
 go_loopw [6,7] (fun iv v7 wr=>∃ k:Nat,k<=args.length/\iv=.int .i64 (k:Int)/\(args.drop k).all argB=R/\Below w.heap.size w wr/\BxL 41 w.heap.size [.int .u8 (kd:Int),.int .u8 (op:Int),.string ⟨dst.toArray⟩,.string ⟨nm.toArray⟩,.slice pa args.length ca,.int .i64 pos.1,.int .i64 pos.2] wr) (fun iv _ _=>args.length - (intOf iv).toNat)
 case atStart=>exact ⟨0,Nat.zero_le _,rfl,by rw [HRA.out];rfl,HBw2.out,HXw2.out⟩
 case round =>
  obtain ⟨wz,rfl⟩:∃ W:World,W=wr:=⟨_,rfl⟩
  obtain ⟨k,hk,rfl,hal,hbz,hxz⟩:=hrel
  have x4:wz.cell? ⟨w.heap.size,4,none⟩=some (.slice pa args.length ca):=hxz.at 4 rfl
  by_cases hlt:k<args.length
  ·obtain ⟨b,off,rfl,hRR,hcells⟩:=ag_at HSL.out (by omega:0<args.length)
   obtain ⟨c0,c1⟩:=hcells k hlt
   have d0:=(hbz.cell (p:=⟨b,off+k*2,none⟩) hRR).trans c0
   have d1:=(hbz.cell (p:=⟨b,off+k*2+1,none⟩) hRR).trans c1
   rw [all_step hlt] at hal
   have HSN:=hid hal;have HLT:=hid hlt;have HBZ:=hid hbz;have HXZ:=hid hxz
   have HAK:=hid (HA.out args[k] (List.getElem_mem hlt))
   clear hcells c0 c1 hRR hal hbz hxz
   generalize args[k]=a at *
   go_upto_region 19 with fail
   obtain ⟨b7,hb7⟩:∃ b,wz.heap.size=b:=⟨_,rfl⟩
   obtain ⟨wy,hwy⟩:∃ W,wz.alloc (.cells #[.string ⟨a.nm.toArray⟩,.int .u64 (a.num:Int)] 43)=W:=⟨_,rfl⟩
   have HBY:=hid (show Below w.heap.size w wy from by rw [<- hwy];exact HBZ.alloc HBZ.size _)
   have HXY:=hid (show BxL 41 w.heap.size [.int .u8 (kd:Int),.int .u8 (op:Int),.string ⟨dst.toArray⟩,.string ⟨nm.toArray⟩,.slice (some ⟨b,off,none⟩) args.length ca,.int .i64 pos.1,.int .i64 pos.2] wy from by rw [<- hwy];exact HXZ.al _)
   have HNY:=hid (show BxL 43 b7 [.string ⟨a.nm.toArray⟩,.int .u64 (a.num:Int)] wy from by rw [<- hwy,<- hb7];exact BxL.new _ _ _)
   rw [hwy,hb7]
   clear hwy hb7 d0 d1 x4
   have n0:wy.cell? ⟨b7,0,none⟩=some (.string ⟨a.nm.toArray⟩):=HNY.at 0 rfl
   by_cases hz:a.nm=[]
   ·have e1:a.nm.isEmpty=true:=by rw [hz];rfl
    have HST:=hid (show (args.drop (k+1)).all argB=R from by rw [<- HSN.out];unfold argB;simp [hz])
    clear hz hlt
    go_wp2_with fail
    go_roundw
    case rel=>exact ⟨k+1,HLT.out,by rw [wrap_next HLT.out HSL.len],HST.out,HBY.out,HXY.out⟩
    case measure=>exact meas_next HLT.out HSL.len
   ·have e1:a.nm.isEmpty=false:=by simpa using hz
    have HZ:=hid hz
    clear hz hlt
    cases hna:namedB a.nm with
    | false =>
     have HNA:=hid hna
     have HF:Hid (R=false):=hid (by rw [<- HSN.out];unfold argB;simp [HZ.out,hna])
     clear hna
     go_wp2_with (go_at_call 131;(with_reducible refine (rnamed_any a.nm _ HAK.out).mono ?_);rw [HNA.out];rintro e w5 ⟨rfl,hb⟩;have HB5:=hid (HBY.out.trans (hb.mono HBY.out.size));clear hb)
     go_ret
     exact ⟨by rw [HF.out];rfl,HB5.out⟩
    | true =>
     have HNA:=hid hna
     clear hna
     by_cases hu:a.num=0
     ·have u1:((a.num:Int) != 0)=false:=by simp;omega
      have u2:((a.num:Int) == 0)=true:=by simp;omega
      have HST:=hid (show (args.drop (k+1)).all argB=R from by rw [<- HSN.out];unfold argB;simp [HNA.out,hu])
      clear hu
      go_wp2_with (go_at_call 131;(with_reducible refine (rnamed_any a.nm _ HAK.out).mono ?_);rw [HNA.out];rintro e w5 ⟨rfl,hb⟩;have HB5:=hid (HBY.out.trans (hb.mono HBY.out.size));have HX5:=hid (HXY.out.bel hb);have n1:w5.cell? ⟨b7,1,none⟩=some (.int .u64 (a.num:Int)):=(HNY.out.bel hb).at 1 rfl;clear hb)
      go_roundw
      case rel=>exact ⟨k+1,HLT.out,by rw [wrap_next HLT.out HSL.len],HST.out,HB5.out,HX5.out⟩
      case measure=>exact meas_next HLT.out HSL.len
     ·have u1:((a.num:Int) != 0)=true:=by simp;omega
      have u2:((a.num:Int) == 0)=false:=by simp;omega
      have HF:Hid (R=false):=hid (by rw [<- HSN.out];unfold argB;simp [HZ.out,hu])
      clear hu
      go_wp2_with (go_at_call 131;(with_reducible refine (rnamed_any a.nm _ HAK.out).mono ?_);rw [HNA.out];rintro e w5 ⟨rfl,hb⟩;have HB5:=hid (HBY.out.trans (hb.mono HBY.out.size));have n1:w5.cell? ⟨b7,1,none⟩=some (.int .u64 (a.num:Int)):=(HNY.out.bel hb).at 1 rfl;clear hb)
      go_ret
      exact ⟨by rw [HF.out];rfl,HB5.out⟩
  ·obtain rfl:k=args.length:=by omega
   have HF:Hid (R=true):=hid (by rw [<- hal,List.drop_length];rfl)
   have HBZ:=hid hbz
   clear hlt hal hbz hxz
   go_wp2_with fail
   go_ret
   exact ⟨by rw [HF.out];rfl,HBZ.out⟩
theorem rform_1 (op:Nat) (dst nm:Bs) (args:List Ag) (pos:Int × Int) (v:Value) (w:World) (hop:op<=255) (hd:dst.length<=140737488355328) (hm:nm.length<=140737488355328) (ha:∀ a ∈ args,a.nm.length<=140737488355328) (h:SlG kAg (·<w.heap.size) w v args) :
  Calls Tryz.prog 96 #[.agg #[.int .u8 ((1:Nat):Int),.int .u8 (op:Int),.string ⟨dst.toArray⟩,.string ⟨nm.toArray⟩,v,.int .i64 pos.1,.int .i64 pos.2]] w fun e w'=>e=.returned (.bool (formB ⟨1,op,dst,nm,args,pos⟩))/\Below w.heap.size w w':=by
 obtain ⟨pa,ca,rfl⟩:=h.slc
 obtain ⟨R,hR⟩:∃ R,formB ⟨1,op,dst,nm,args,pos⟩=R:=⟨_,rfl⟩
 rw [hR]
 have HR:=hid hR;have HSL:=hid h;have HD:=hid hd;have HM:=hid hm;have HA:=hid ha;have HOP:=hid hop
 clear hR h hd hm ha hop
 go_enter Tryz.func96,Tryz.ntmps96
 go_upto_region 1 with fail
 obtain ⟨wo,hwo⟩:∃ W,w.alloc (.cells #[.int .u8 1,.int .u8 (op:Int),.string ⟨dst.toArray⟩,.string ⟨nm.toArray⟩,.slice pa args.length ca,.int .i64 pos.1,.int .i64 pos.2] 41)=W:=⟨_,rfl⟩
 have HX0:=hid (show BxL 41 w.heap.size [.int .u8 1,.int .u8 (op:Int),.string ⟨dst.toArray⟩,.string ⟨nm.toArray⟩,.slice pa args.length ca,.int .i64 pos.1,.int .i64 pos.2] wo from by rw [<- hwo];exact BxL.new _ _ _)
 have HB0:=hid (show Below w.heap.size w wo from by rw [<- hwo];exact bA)
 rw [hwo]
 clear hwo
 have x0:wo.cell? ⟨w.heap.size,0,none⟩=some (.int .u8 1):=HX0.at 0 rfl
 go_upto_region 2 with (go_at_call 137;(refine (rfields_1 _).mono ?_);rintro e w1 ⟨rfl,hb1⟩;have HB1:=hid (HB0.out.trans (hb1.mono HB0.out.size));have HX1:=hid (HX0.out.bel hb1);clear hb1)
 clear x0
 obtain ⟨b3,hb3⟩:∃ b,w1.heap.size=b:=⟨_,rfl⟩
 obtain ⟨w2,hw2⟩:∃ W,w1.alloc (.cells #[.bool true,.bool false,.int .i64 (-1)] 173)=W:=⟨_,rfl⟩
 have HBw2:=hid (show Below w.heap.size w w2 from by rw [<- hw2];exact HB1.alloc HB1.size _)
 have HXw2:=hid (show BxL 41 w.heap.size [.int .u8 1,.int .u8 (op:Int),.string ⟨dst.toArray⟩,.string ⟨nm.toArray⟩,.slice pa args.length ca,.int .i64 pos.1,.int .i64 pos.2] w2 from by rw [<- hw2];exact HX1.al _)
 have HHw2:=hid (show BxL 173 b3 [.bool true,.bool false,.int .i64 (-1)] w2 from by rw [<- hw2,<- hb3];exact BxL.new _ _ _)
 rw [hw2,hb3]
 clear hw2 hb3
 obtain ⟨x0,x1,x2,x3,x4⟩:=HXw2.p5;obtain ⟨h0,h1⟩:=HHw2.p2
 have h2:w2.cell? ⟨b3,2,none⟩=some (.int .i64 (-1)):=HHw2.at 2 rfl
 by_cases hop:2<=op/\op<=20
 case neg =>
  have HF:Hid (R=false):=hid (by rw [<- HR.out];unfold formB opOkB fieldB wantM fieldsL;simp [hop])
  by_cases hlo:op<2
  ·have g1:decide ((op:Int)<2)=true:=by simp;omega
   clear hop hlo
   go_wp2_with fail
   go_ret
   exact ⟨by rw [HF.out];rfl,HBw2.out⟩
  ·have g1:decide ((op:Int)<2)=false:=by simp;omega
   have g2:decide ((20:Int)<(op:Int))=true:=by simp;omega
   clear hop hlo
   go_wp2_with fail
   go_ret
   exact ⟨by rw [HF.out];rfl,HBw2.out⟩
 have HOZ:=hid hop
 have g1:decide ((op:Int)<2)=false:=by simp;omega
 have g2:decide ((20:Int)<(op:Int))=false:=by simp;omega
 clear hop
 obtain ⟨A,hA⟩:∃ A,arityM op=A:=⟨_,rfl⟩
 have HAR:=hid hA
 have HA32:=hid (show A<=32 from by rw [<- hA];unfold arityM;split <;> (try split) <;> (try split) <;> omega)
 clear hA
 cases hndst:namedB dst with
 | false =>
  have HNdst:=hid hndst
  have HF:Hid (R=false):=hid (by rw [<- HR.out];unfold formB opOkB fieldB wantM fieldsL;simp [HOZ.1,HOZ.2,HAR.out,hndst])
  clear hndst
  go_wp2_with (first | (go_at_call 138;(with_reducible refine (rarity_any op HOZ.out _).mono ?_);rw [HAR.out];rintro e w8 ⟨rfl,rfl⟩) | (go_at_call 131;(with_reducible refine (rnamed_any dst _ HD.out).mono ?_);rw [HNdst.out];rintro e w3 ⟨rfl,hb⟩;have HBw3:=hid (HBw2.out.trans (hb.mono HBw2.out.size));have HXw3:=hid (HXw2.out.bel hb);have HHw3:=hid (HHw2.out.bel hb);clear hb;obtain ⟨x0,x1,x2,x3,x4⟩:=HXw3.out.p5;obtain ⟨h0,h1⟩:=HHw3.out.p2))
  go_ret
  exact ⟨by rw [HF.out];rfl,HBw3.out⟩
 | true =>
 have HNdst:=hid hndst
 clear hndst
 by_cases hznm:nm=[]
 case neg =>
  have HZnm:=hid hznm
  have HF:Hid (R=false):=hid (by rw [<- HR.out];unfold formB opOkB fieldB wantM fieldsL;simp [HOZ.1,HOZ.2,HAR.out,HNdst.out,hznm])
  have enm:nm.isEmpty=false:=by simpa using hznm
  clear hznm
  go_wp2_with (first | (go_at_call 138;(with_reducible refine (rarity_any op HOZ.out _).mono ?_);rw [HAR.out];rintro e w8 ⟨rfl,rfl⟩) | (go_at_call 131;(with_reducible refine (rnamed_any dst _ HD.out).mono ?_);rw [HNdst.out];rintro e w3 ⟨rfl,hb⟩;have HBw3:=hid (HBw2.out.trans (hb.mono HBw2.out.size));have HXw3:=hid (HXw2.out.bel hb);have HHw3:=hid (HHw2.out.bel hb);clear hb;obtain ⟨x0,x1,x2,x3,x4⟩:=HXw3.out.p5;obtain ⟨h0,h1⟩:=HHw3.out.p2))
  go_ret
  exact ⟨by rw [HF.out];rfl,HBw3.out⟩
 have HZnm:=hid hznm
 have enm:nm.isEmpty=true:=by rw [hznm];rfl
 clear hznm
 by_cases hl:args.length=A
 case neg =>
  have HL:=hid hl
  have HF:Hid (R=false):=hid (by rw [<- HR.out];unfold formB opOkB fieldB wantM fieldsL;simp [HOZ.1,HOZ.2,HAR.out,HNdst.out,HZnm.out,show ¬ ((args.length:Int)=(A:Int)) from by omega,hl,show ¬ ((A:Int)<0) from by omega])
  have l1:((args.length:Int) != (A:Int))=true:=bne_iff_ne.2 (by omega)
  have l2:((args.length:Int) == (A:Int))=false:=beq_eq_false_iff_ne.2 (by omega)
  clear hl
  go_wp2_with (first | (go_at_call 138;(with_reducible refine (rarity_any op HOZ.out _).mono ?_);rw [HAR.out];rintro e w8 ⟨rfl,rfl⟩) | (go_at_call 131;(with_reducible refine (rnamed_any dst _ HD.out).mono ?_);rw [HNdst.out];rintro e w3 ⟨rfl,hb⟩;have HBw3:=hid (HBw2.out.trans (hb.mono HBw2.out.size));have HXw3:=hid (HXw2.out.bel hb);have HHw3:=hid (HHw2.out.bel hb);clear hb;obtain ⟨x0,x1,x2,x3,x4⟩:=HXw3.out.p5;obtain ⟨h0,h1⟩:=HHw3.out.p2))
  go_ret
  exact ⟨by rw [HF.out];rfl,HBw3.out⟩
 have HL:=hid hl
 have HRA:Hid (R=args.all argB):=hid (by rw [<- HR.out];unfold formB opOkB fieldB wantM fieldsL;simp [HOZ.1,HOZ.2,HAR.out,HNdst.out,HZnm.out,hl,HA32.out])
 have l1:((args.length:Int) != (A:Int))=false:=by rw [hl];simp
 have l2:((args.length:Int) == (A:Int))=true:=by rw [hl];simp
 clear hl
 go_upto_region 15 with (first | (go_at_call 138;(with_reducible refine (rarity_any op HOZ.out _).mono ?_);rw [HAR.out];rintro e w8 ⟨rfl,rfl⟩) | (go_at_call 131;(with_reducible refine (rnamed_any dst _ HD.out).mono ?_);rw [HNdst.out];rintro e w3 ⟨rfl,hb⟩;have HBw3:=hid (HBw2.out.trans (hb.mono HBw2.out.size));have HXw3:=hid (HXw2.out.bel hb);have HHw3:=hid (HHw2.out.bel hb);clear hb;obtain ⟨x0,x1,x2,x3,x4⟩:=HXw3.out.p5;obtain ⟨h0,h1⟩:=HHw3.out.p2))
 go_wp2_with fail
 clear x0 x1 x2 x3 x4 h0 h1
 go_loopw [6,7] (fun iv v7 wr=>∃ k:Nat,k<=args.length/\iv=.int .i64 (k:Int)/\(args.drop k).all argB=R/\Below w.heap.size w wr/\BxL 41 w.heap.size [.int .u8 1,.int .u8 (op:Int),.string ⟨dst.toArray⟩,.string ⟨nm.toArray⟩,.slice pa args.length ca,.int .i64 pos.1,.int .i64 pos.2] wr) (fun iv _ _=>args.length - (intOf iv).toNat)
 case atStart=>exact ⟨0,Nat.zero_le _,rfl,by rw [HRA.out];rfl,HBw3.out,HXw3.out⟩
 case round =>
  obtain ⟨wz,rfl⟩:∃ W:World,W=wr:=⟨_,rfl⟩
  obtain ⟨k,hk,rfl,hal,hbz,hxz⟩:=hrel
  have x4:wz.cell? ⟨w.heap.size,4,none⟩=some (.slice pa args.length ca):=hxz.at 4 rfl
  by_cases hlt:k<args.length
  ·obtain ⟨b,off,rfl,hRR,hcells⟩:=ag_at HSL.out (by omega:0<args.length)
   obtain ⟨c0,c1⟩:=hcells k hlt
   have d0:=(hbz.cell (p:=⟨b,off+k*2,none⟩) hRR).trans c0
   have d1:=(hbz.cell (p:=⟨b,off+k*2+1,none⟩) hRR).trans c1
   rw [all_step hlt] at hal
   have HSN:=hid hal;have HLT:=hid hlt;have HBZ:=hid hbz;have HXZ:=hid hxz
   have HAK:=hid (HA.out args[k] (List.getElem_mem hlt))
   clear hcells c0 c1 hRR hal hbz hxz
   generalize args[k]=a at *
   go_upto_region 19 with fail
   obtain ⟨b7,hb7⟩:∃ b,wz.heap.size=b:=⟨_,rfl⟩
   obtain ⟨wy,hwy⟩:∃ W,wz.alloc (.cells #[.string ⟨a.nm.toArray⟩,.int .u64 (a.num:Int)] 43)=W:=⟨_,rfl⟩
   have HBY:=hid (show Below w.heap.size w wy from by rw [<- hwy];exact HBZ.alloc HBZ.size _)
   have HXY:=hid (show BxL 41 w.heap.size [.int .u8 1,.int .u8 (op:Int),.string ⟨dst.toArray⟩,.string ⟨nm.toArray⟩,.slice (some ⟨b,off,none⟩) args.length ca,.int .i64 pos.1,.int .i64 pos.2] wy from by rw [<- hwy];exact HXZ.al _)
   have HNY:=hid (show BxL 43 b7 [.string ⟨a.nm.toArray⟩,.int .u64 (a.num:Int)] wy from by rw [<- hwy,<- hb7];exact BxL.new _ _ _)
   rw [hwy,hb7]
   clear hwy hb7 d0 d1 x4
   have n0:wy.cell? ⟨b7,0,none⟩=some (.string ⟨a.nm.toArray⟩):=HNY.at 0 rfl
   by_cases hz:a.nm=[]
   ·have e1:a.nm.isEmpty=true:=by rw [hz];rfl
    have HST:=hid (show (args.drop (k+1)).all argB=R from by rw [<- HSN.out];unfold argB;simp [hz])
    clear hz hlt
    go_wp2_with fail
    go_roundw
    case rel=>exact ⟨k+1,HLT.out,by rw [wrap_next HLT.out HSL.len],HST.out,HBY.out,HXY.out⟩
    case measure=>exact meas_next HLT.out HSL.len
   ·have e1:a.nm.isEmpty=false:=by simpa using hz
    have HZ:=hid hz
    clear hz hlt
    cases hna:namedB a.nm with
    | false =>
     have HNA:=hid hna
     have HF:Hid (R=false):=hid (by rw [<- HSN.out];unfold argB;simp [HZ.out,hna])
     clear hna
     go_wp2_with (go_at_call 131;(with_reducible refine (rnamed_any a.nm _ HAK.out).mono ?_);rw [HNA.out];rintro e w5 ⟨rfl,hb⟩;have HB5:=hid (HBY.out.trans (hb.mono HBY.out.size));clear hb)
     go_ret
     exact ⟨by rw [HF.out];rfl,HB5.out⟩
    | true =>
     have HNA:=hid hna
     clear hna
     by_cases hu:a.num=0
     ·have u1:((a.num:Int) != 0)=false:=by simp;omega
      have u2:((a.num:Int) == 0)=true:=by simp;omega
      have HST:=hid (show (args.drop (k+1)).all argB=R from by rw [<- HSN.out];unfold argB;simp [HNA.out,hu])
      clear hu
      go_wp2_with (go_at_call 131;(with_reducible refine (rnamed_any a.nm _ HAK.out).mono ?_);rw [HNA.out];rintro e w5 ⟨rfl,hb⟩;have HB5:=hid (HBY.out.trans (hb.mono HBY.out.size));have HX5:=hid (HXY.out.bel hb);have n1:w5.cell? ⟨b7,1,none⟩=some (.int .u64 (a.num:Int)):=(HNY.out.bel hb).at 1 rfl;clear hb)
      go_roundw
      case rel=>exact ⟨k+1,HLT.out,by rw [wrap_next HLT.out HSL.len],HST.out,HB5.out,HX5.out⟩
      case measure=>exact meas_next HLT.out HSL.len
     ·have u1:((a.num:Int) != 0)=true:=by simp;omega
      have u2:((a.num:Int) == 0)=false:=by simp;omega
      have HF:Hid (R=false):=hid (by rw [<- HSN.out];unfold argB;simp [HZ.out,hu])
      clear hu
      go_wp2_with (go_at_call 131;(with_reducible refine (rnamed_any a.nm _ HAK.out).mono ?_);rw [HNA.out];rintro e w5 ⟨rfl,hb⟩;have HB5:=hid (HBY.out.trans (hb.mono HBY.out.size));have n1:w5.cell? ⟨b7,1,none⟩=some (.int .u64 (a.num:Int)):=(HNY.out.bel hb).at 1 rfl;clear hb)
      go_ret
      exact ⟨by rw [HF.out];rfl,HB5.out⟩
  ·obtain rfl:k=args.length:=by omega
   have HF:Hid (R=true):=hid (by rw [<- hal,List.drop_length];rfl)
   have HBZ:=hid hbz
   clear hlt hal hbz hxz
   go_wp2_with fail
   go_ret
   exact ⟨by rw [HF.out];rfl,HBZ.out⟩
theorem rform_4 (op:Nat) (dst nm:Bs) (args:List Ag) (pos:Int × Int) (v:Value) (w:World) (hop:op<=255) (hd:dst.length<=140737488355328) (hm:nm.length<=140737488355328) (ha:∀ a ∈ args,a.nm.length<=140737488355328) (h:SlG kAg (·<w.heap.size) w v args) :
  Calls Tryz.prog 96 #[.agg #[.int .u8 ((4:Nat):Int),.int .u8 (op:Int),.string ⟨dst.toArray⟩,.string ⟨nm.toArray⟩,v,.int .i64 pos.1,.int .i64 pos.2]] w fun e w'=>e=.returned (.bool (formB ⟨4,op,dst,nm,args,pos⟩))/\Below w.heap.size w w':=by
 obtain ⟨pa,ca,rfl⟩:=h.slc
 obtain ⟨R,hR⟩:∃ R,formB ⟨4,op,dst,nm,args,pos⟩=R:=⟨_,rfl⟩
 rw [hR]
 have HR:=hid hR;have HSL:=hid h;have HD:=hid hd;have HM:=hid hm;have HA:=hid ha;have HOP:=hid hop
 clear hR h hd hm ha hop
 go_enter Tryz.func96,Tryz.ntmps96
 go_upto_region 1 with fail
 obtain ⟨wo,hwo⟩:∃ W,w.alloc (.cells #[.int .u8 4,.int .u8 (op:Int),.string ⟨dst.toArray⟩,.string ⟨nm.toArray⟩,.slice pa args.length ca,.int .i64 pos.1,.int .i64 pos.2] 41)=W:=⟨_,rfl⟩
 have HX0:=hid (show BxL 41 w.heap.size [.int .u8 4,.int .u8 (op:Int),.string ⟨dst.toArray⟩,.string ⟨nm.toArray⟩,.slice pa args.length ca,.int .i64 pos.1,.int .i64 pos.2] wo from by rw [<- hwo];exact BxL.new _ _ _)
 have HB0:=hid (show Below w.heap.size w wo from by rw [<- hwo];exact bA)
 rw [hwo]
 clear hwo
 have x0:wo.cell? ⟨w.heap.size,0,none⟩=some (.int .u8 4):=HX0.at 0 rfl
 go_upto_region 2 with (go_at_call 137;(refine (rfields_4 _).mono ?_);rintro e w1 ⟨rfl,hb1⟩;have HB1:=hid (HB0.out.trans (hb1.mono HB0.out.size));have HX1:=hid (HX0.out.bel hb1);clear hb1)
 clear x0
 obtain ⟨b3,hb3⟩:∃ b,w1.heap.size=b:=⟨_,rfl⟩
 obtain ⟨w2,hw2⟩:∃ W,w1.alloc (.cells #[.bool true,.bool true,.int .i64 (-1)] 173)=W:=⟨_,rfl⟩
 have HBw2:=hid (show Below w.heap.size w w2 from by rw [<- hw2];exact HB1.alloc HB1.size _)
 have HXw2:=hid (show BxL 41 w.heap.size [.int .u8 4,.int .u8 (op:Int),.string ⟨dst.toArray⟩,.string ⟨nm.toArray⟩,.slice pa args.length ca,.int .i64 pos.1,.int .i64 pos.2] w2 from by rw [<- hw2];exact HX1.al _)
 have HHw2:=hid (show BxL 173 b3 [.bool true,.bool true,.int .i64 (-1)] w2 from by rw [<- hw2,<- hb3];exact BxL.new _ _ _)
 rw [hw2,hb3]
 clear hw2 hb3
 obtain ⟨x0,x1,x2,x3,x4⟩:=HXw2.p5;obtain ⟨h0,h1⟩:=HHw2.p2
 have h2:w2.cell? ⟨b3,2,none⟩=some (.int .i64 (-1)):=HHw2.at 2 rfl
 by_cases hop:op=0
 case neg =>
  have HF:Hid (R=false):=hid (by rw [<- HR.out];unfold formB opOkB fieldB wantM fieldsL;simp [hop])
  have z1:((op:Int) != 0)=true:=by simp;omega
  have z2:((op:Int) == 0)=false:=by simp;omega
  go_wp2_with fail
  go_ret
  exact ⟨by rw [HF.out];rfl,HBw2.out⟩
 have HOZ:=hid hop
 have z1:((op:Int) != 0)=false:=by simp;omega
 have z2:((op:Int) == 0)=true:=by simp;omega
 clear hop
 cases hndst:namedB dst with
 | false =>
  have HNdst:=hid hndst
  have HF:Hid (R=false):=hid (by rw [<- HR.out];unfold formB opOkB fieldB wantM fieldsL;simp [HOZ.out,hndst])
  clear hndst
  go_wp2_with (first | (go_at_call 131;(with_reducible refine (rnamed_any dst _ HD.out).mono ?_);rw [HNdst.out];rintro e w3 ⟨rfl,hb⟩;have HBw3:=hid (HBw2.out.trans (hb.mono HBw2.out.size));have HXw3:=hid (HXw2.out.bel hb);have HHw3:=hid (HHw2.out.bel hb);clear hb;obtain ⟨x0,x1,x2,x3,x4⟩:=HXw3.out.p5;obtain ⟨h0,h1⟩:=HHw3.out.p2))
  go_ret
  exact ⟨by rw [HF.out];rfl,HBw3.out⟩
 | true =>
 have HNdst:=hid hndst
 clear hndst
 cases hnnm:namedB nm with
 | false =>
  have HNnm:=hid hnnm
  have HF:Hid (R=false):=hid (by rw [<- HR.out];unfold formB opOkB fieldB wantM fieldsL;simp [HOZ.out,HNdst.out,hnnm])
  clear hnnm
  go_wp2_with (first | (go_at_call 131;(with_reducible refine (rnamed_any dst _ HD.out).mono ?_);rw [HNdst.out];rintro e w3 ⟨rfl,hb⟩;have HBw3:=hid (HBw2.out.trans (hb.mono HBw2.out.size));have HXw3:=hid (HXw2.out.bel hb);have HHw3:=hid (HHw2.out.bel hb);clear hb;obtain ⟨x0,x1,x2,x3,x4⟩:=HXw3.out.p5;have h0:w3.cell? ⟨b3,0,none⟩=some (.bool true):=HHw3.out.at 0 rfl;have h1:w3.cell? ⟨b3,1,none⟩=some (.bool true):=HHw3.out.at 1 rfl) | (go_at_call 131;(with_reducible refine (rnamed_any nm _ HM.out).mono ?_);rw [HNnm.out];rintro e w4 ⟨rfl,hb⟩;have HBw4:=hid (HBw3.out.trans (hb.mono HBw3.out.size));have HXw4:=hid (HXw3.out.bel hb);have HHw4:=hid (HHw3.out.bel hb);clear hb;obtain ⟨x0,x1,x2,x3,x4⟩:=HXw4.out.p5;obtain ⟨h0,h1⟩:=HHw4.out.p2))
  go_ret
  exact ⟨by rw [HF.out];rfl,HBw4.out⟩
 | true =>
 have HNnm:=hid hnnm
 clear hnnm
 by_cases hl:args.length<=32
 case neg =>
  have HF:Hid (R=false):=hid (by rw [<- HR.out];unfold formB opOkB fieldB wantM fieldsL;simp [HOZ.out,HNdst.out,HNnm.out,hl])
  have l0:min (args.length:Int) 32=32:=by omega
  have l1:((args.length:Int) != 32)=true:=by simp;omega
  have l2:((args.length:Int) == 32)=false:=by simp;omega
  clear hl
  go_wp2_with (first | (go_at_call 131;(with_reducible refine (rnamed_any dst _ HD.out).mono ?_);rw [HNdst.out];rintro e w3 ⟨rfl,hb⟩;have HBw3:=hid (HBw2.out.trans (hb.mono HBw2.out.size));have HXw3:=hid (HXw2.out.bel hb);have HHw3:=hid (HHw2.out.bel hb);clear hb;obtain ⟨x0,x1,x2,x3,x4⟩:=HXw3.out.p5;have h0:w3.cell? ⟨b3,0,none⟩=some (.bool true):=HHw3.out.at 0 rfl;have h1:w3.cell? ⟨b3,1,none⟩=some (.bool true):=HHw3.out.at 1 rfl) | (go_at_call 131;(with_reducible refine (rnamed_any nm _ HM.out).mono ?_);rw [HNnm.out];rintro e w4 ⟨rfl,hb⟩;have HBw4:=hid (HBw3.out.trans (hb.mono HBw3.out.size));have HXw4:=hid (HXw3.out.bel hb);have HHw4:=hid (HHw3.out.bel hb);clear hb;obtain ⟨x0,x1,x2,x3,x4⟩:=HXw4.out.p5;obtain ⟨h0,h1⟩:=HHw4.out.p2))
  go_ret
  exact ⟨by rw [HF.out];rfl,HBw4.out⟩
 have HL:=hid hl
 have HRA:Hid (R=args.all argB):=hid (by rw [<- HR.out];unfold formB opOkB fieldB wantM fieldsL;simp [HOZ.out,HNdst.out,HNnm.out,hl])
 have l0:min (args.length:Int) 32=(args.length:Int):=by omega
 clear hl
 go_upto_region 15 with (first | (go_at_call 131;(with_reducible refine (rnamed_any dst _ HD.out).mono ?_);rw [HNdst.out];rintro e w3 ⟨rfl,hb⟩;have HBw3:=hid (HBw2.out.trans (hb.mono HBw2.out.size));have HXw3:=hid (HXw2.out.bel hb);have HHw3:=hid (HHw2.out.bel hb);clear hb;obtain ⟨x0,x1,x2,x3,x4⟩:=HXw3.out.p5;have h0:w3.cell? ⟨b3,0,none⟩=some (.bool true):=HHw3.out.at 0 rfl;have h1:w3.cell? ⟨b3,1,none⟩=some (.bool true):=HHw3.out.at 1 rfl) | (go_at_call 131;(with_reducible refine (rnamed_any nm _ HM.out).mono ?_);rw [HNnm.out];rintro e w4 ⟨rfl,hb⟩;have HBw4:=hid (HBw3.out.trans (hb.mono HBw3.out.size));have HXw4:=hid (HXw3.out.bel hb);have HHw4:=hid (HHw3.out.bel hb);clear hb;obtain ⟨x0,x1,x2,x3,x4⟩:=HXw4.out.p5;obtain ⟨h0,h1⟩:=HHw4.out.p2))
 clear l0
 go_wp2_with fail
 clear x0 x1 x2 x3 x4 h0 h1
 go_loopw [6,7] (fun iv v7 wr=>∃ k:Nat,k<=args.length/\iv=.int .i64 (k:Int)/\(args.drop k).all argB=R/\Below w.heap.size w wr/\BxL 41 w.heap.size [.int .u8 4,.int .u8 (op:Int),.string ⟨dst.toArray⟩,.string ⟨nm.toArray⟩,.slice pa args.length ca,.int .i64 pos.1,.int .i64 pos.2] wr) (fun iv _ _=>args.length - (intOf iv).toNat)
 case atStart=>exact ⟨0,Nat.zero_le _,rfl,by rw [HRA.out];rfl,HBw4.out,HXw4.out⟩
 case round =>
  obtain ⟨wz,rfl⟩:∃ W:World,W=wr:=⟨_,rfl⟩
  obtain ⟨k,hk,rfl,hal,hbz,hxz⟩:=hrel
  have x4:wz.cell? ⟨w.heap.size,4,none⟩=some (.slice pa args.length ca):=hxz.at 4 rfl
  by_cases hlt:k<args.length
  ·obtain ⟨b,off,rfl,hRR,hcells⟩:=ag_at HSL.out (by omega:0<args.length)
   obtain ⟨c0,c1⟩:=hcells k hlt
   have d0:=(hbz.cell (p:=⟨b,off+k*2,none⟩) hRR).trans c0
   have d1:=(hbz.cell (p:=⟨b,off+k*2+1,none⟩) hRR).trans c1
   rw [all_step hlt] at hal
   have HSN:=hid hal;have HLT:=hid hlt;have HBZ:=hid hbz;have HXZ:=hid hxz
   have HAK:=hid (HA.out args[k] (List.getElem_mem hlt))
   clear hcells c0 c1 hRR hal hbz hxz
   generalize args[k]=a at *
   go_upto_region 19 with fail
   obtain ⟨b7,hb7⟩:∃ b,wz.heap.size=b:=⟨_,rfl⟩
   obtain ⟨wy,hwy⟩:∃ W,wz.alloc (.cells #[.string ⟨a.nm.toArray⟩,.int .u64 (a.num:Int)] 43)=W:=⟨_,rfl⟩
   have HBY:=hid (show Below w.heap.size w wy from by rw [<- hwy];exact HBZ.alloc HBZ.size _)
   have HXY:=hid (show BxL 41 w.heap.size [.int .u8 4,.int .u8 (op:Int),.string ⟨dst.toArray⟩,.string ⟨nm.toArray⟩,.slice (some ⟨b,off,none⟩) args.length ca,.int .i64 pos.1,.int .i64 pos.2] wy from by rw [<- hwy];exact HXZ.al _)
   have HNY:=hid (show BxL 43 b7 [.string ⟨a.nm.toArray⟩,.int .u64 (a.num:Int)] wy from by rw [<- hwy,<- hb7];exact BxL.new _ _ _)
   rw [hwy,hb7]
   clear hwy hb7 d0 d1 x4
   have n0:wy.cell? ⟨b7,0,none⟩=some (.string ⟨a.nm.toArray⟩):=HNY.at 0 rfl
   by_cases hz:a.nm=[]
   ·have e1:a.nm.isEmpty=true:=by rw [hz];rfl
    have HST:=hid (show (args.drop (k+1)).all argB=R from by rw [<- HSN.out];unfold argB;simp [hz])
    clear hz hlt
    go_wp2_with fail
    go_roundw
    case rel=>exact ⟨k+1,HLT.out,by rw [wrap_next HLT.out HSL.len],HST.out,HBY.out,HXY.out⟩
    case measure=>exact meas_next HLT.out HSL.len
   ·have e1:a.nm.isEmpty=false:=by simpa using hz
    have HZ:=hid hz
    clear hz hlt
    cases hna:namedB a.nm with
    | false =>
     have HNA:=hid hna
     have HF:Hid (R=false):=hid (by rw [<- HSN.out];unfold argB;simp [HZ.out,hna])
     clear hna
     go_wp2_with (go_at_call 131;(with_reducible refine (rnamed_any a.nm _ HAK.out).mono ?_);rw [HNA.out];rintro e w5 ⟨rfl,hb⟩;have HB5:=hid (HBY.out.trans (hb.mono HBY.out.size));clear hb)
     go_ret
     exact ⟨by rw [HF.out];rfl,HB5.out⟩
    | true =>
     have HNA:=hid hna
     clear hna
     by_cases hu:a.num=0
     ·have u1:((a.num:Int) != 0)=false:=by simp;omega
      have u2:((a.num:Int) == 0)=true:=by simp;omega
      have HST:=hid (show (args.drop (k+1)).all argB=R from by rw [<- HSN.out];unfold argB;simp [HNA.out,hu])
      clear hu
      go_wp2_with (go_at_call 131;(with_reducible refine (rnamed_any a.nm _ HAK.out).mono ?_);rw [HNA.out];rintro e w5 ⟨rfl,hb⟩;have HB5:=hid (HBY.out.trans (hb.mono HBY.out.size));have HX5:=hid (HXY.out.bel hb);have n1:w5.cell? ⟨b7,1,none⟩=some (.int .u64 (a.num:Int)):=(HNY.out.bel hb).at 1 rfl;clear hb)
      go_roundw
      case rel=>exact ⟨k+1,HLT.out,by rw [wrap_next HLT.out HSL.len],HST.out,HB5.out,HX5.out⟩
      case measure=>exact meas_next HLT.out HSL.len
     ·have u1:((a.num:Int) != 0)=true:=by simp;omega
      have u2:((a.num:Int) == 0)=false:=by simp;omega
      have HF:Hid (R=false):=hid (by rw [<- HSN.out];unfold argB;simp [HZ.out,hu])
      clear hu
      go_wp2_with (go_at_call 131;(with_reducible refine (rnamed_any a.nm _ HAK.out).mono ?_);rw [HNA.out];rintro e w5 ⟨rfl,hb⟩;have HB5:=hid (HBY.out.trans (hb.mono HBY.out.size));have n1:w5.cell? ⟨b7,1,none⟩=some (.int .u64 (a.num:Int)):=(HNY.out.bel hb).at 1 rfl;clear hb)
      go_ret
      exact ⟨by rw [HF.out];rfl,HB5.out⟩
  ·obtain rfl:k=args.length:=by omega
   have HF:Hid (R=true):=hid (by rw [<- hal,List.drop_length];rfl)
   have HBZ:=hid hbz
   clear hlt hal hbz hxz
   go_wp2_with fail
   go_ret
   exact ⟨by rw [HF.out];rfl,HBZ.out⟩
theorem rform_0 (op:Nat) (dst nm:Bs) (args:List Ag) (pos:Int × Int) (v:Value) (w:World) (hop:op<=255) (hd:dst.length<=140737488355328) (hm:nm.length<=140737488355328) (ha:∀ a ∈ args,a.nm.length<=140737488355328) (h:SlG kAg (·<w.heap.size) w v args) :
  Calls Tryz.prog 96 #[.agg #[.int .u8 ((0:Nat):Int),.int .u8 (op:Int),.string ⟨dst.toArray⟩,.string ⟨nm.toArray⟩,v,.int .i64 pos.1,.int .i64 pos.2]] w fun e w'=>e=.returned (.bool (formB ⟨0,op,dst,nm,args,pos⟩))/\Below w.heap.size w w' :=
 rform_gtf 0 1 (by decide) (by decide) (fun w=>rfields_0 w) op dst nm args pos v w hop hd hm ha h (form_sig 0 1 op dst nm args pos true false (by decide) (by decide) rfl (by decide))
theorem rform_2 (op:Nat) (dst nm:Bs) (args:List Ag) (pos:Int × Int) (v:Value) (w:World) (hop:op<=255) (hd:dst.length<=140737488355328) (hm:nm.length<=140737488355328) (ha:∀ a ∈ args,a.nm.length<=140737488355328) (h:SlG kAg (·<w.heap.size) w v args) :
  Calls Tryz.prog 96 #[.agg #[.int .u8 ((2:Nat):Int),.int .u8 (op:Int),.string ⟨dst.toArray⟩,.string ⟨nm.toArray⟩,v,.int .i64 pos.1,.int .i64 pos.2]] w fun e w'=>e=.returned (.bool (formB ⟨2,op,dst,nm,args,pos⟩))/\Below w.heap.size w w' :=
 rform_gtt 2 1 (by decide) (by decide) (fun w=>rfields_2 w) op dst nm args pos v w hop hd hm ha h (form_sig 2 1 op dst nm args pos true true (by decide) (by decide) rfl (by decide))
theorem rform_3 (op:Nat) (dst nm:Bs) (args:List Ag) (pos:Int × Int) (v:Value) (w:World) (hop:op<=255) (hd:dst.length<=140737488355328) (hm:nm.length<=140737488355328) (ha:∀ a ∈ args,a.nm.length<=140737488355328) (h:SlG kAg (·<w.heap.size) w v args) :
  Calls Tryz.prog 96 #[.agg #[.int .u8 ((3:Nat):Int),.int .u8 (op:Int),.string ⟨dst.toArray⟩,.string ⟨nm.toArray⟩,v,.int .i64 pos.1,.int .i64 pos.2]] w fun e w'=>e=.returned (.bool (formB ⟨3,op,dst,nm,args,pos⟩))/\Below w.heap.size w w' :=
 rform_gft 3 2 (by decide) (by decide) (fun w=>rfields_3 w) op dst nm args pos v w hop hd hm ha h (form_sig 3 2 op dst nm args pos false true (by decide) (by decide) rfl (by decide))
theorem rform_5 (op:Nat) (dst nm:Bs) (args:List Ag) (pos:Int × Int) (v:Value) (w:World) (hop:op<=255) (hd:dst.length<=140737488355328) (hm:nm.length<=140737488355328) (ha:∀ a ∈ args,a.nm.length<=140737488355328) (h:SlG kAg (·<w.heap.size) w v args) :
  Calls Tryz.prog 96 #[.agg #[.int .u8 ((5:Nat):Int),.int .u8 (op:Int),.string ⟨dst.toArray⟩,.string ⟨nm.toArray⟩,v,.int .i64 pos.1,.int .i64 pos.2]] w fun e w'=>e=.returned (.bool (formB ⟨5,op,dst,nm,args,pos⟩))/\Below w.heap.size w w' :=
 rform_gtt 5 0 (by decide) (by decide) (fun w=>rfields_5 w) op dst nm args pos v w hop hd hm ha h (form_sig 5 0 op dst nm args pos true true (by decide) (by decide) rfl (by decide))
theorem rform_6 (op:Nat) (dst nm:Bs) (args:List Ag) (pos:Int × Int) (v:Value) (w:World) (hop:op<=255) (hd:dst.length<=140737488355328) (hm:nm.length<=140737488355328) (ha:∀ a ∈ args,a.nm.length<=140737488355328) (h:SlG kAg (·<w.heap.size) w v args) :
  Calls Tryz.prog 96 #[.agg #[.int .u8 ((6:Nat):Int),.int .u8 (op:Int),.string ⟨dst.toArray⟩,.string ⟨nm.toArray⟩,v,.int .i64 pos.1,.int .i64 pos.2]] w fun e w'=>e=.returned (.bool (formB ⟨6,op,dst,nm,args,pos⟩))/\Below w.heap.size w w' :=
 rform_gft 6 1 (by decide) (by decide) (fun w=>rfields_6 w) op dst nm args pos v w hop hd hm ha h (form_sig 6 1 op dst nm args pos false true (by decide) (by decide) rfl (by decide))
theorem rform_7 (op:Nat) (dst nm:Bs) (args:List Ag) (pos:Int × Int) (v:Value) (w:World) (hop:op<=255) (hd:dst.length<=140737488355328) (hm:nm.length<=140737488355328) (ha:∀ a ∈ args,a.nm.length<=140737488355328) (h:SlG kAg (·<w.heap.size) w v args) :
  Calls Tryz.prog 96 #[.agg #[.int .u8 ((7:Nat):Int),.int .u8 (op:Int),.string ⟨dst.toArray⟩,.string ⟨nm.toArray⟩,v,.int .i64 pos.1,.int .i64 pos.2]] w fun e w'=>e=.returned (.bool (formB ⟨7,op,dst,nm,args,pos⟩))/\Below w.heap.size w w' :=
 rform_gtt 7 1 (by decide) (by decide) (fun w=>rfields_7 w) op dst nm args pos v w hop hd hm ha h (form_sig 7 1 op dst nm args pos true true (by decide) (by decide) rfl (by decide))
theorem rform_8 (op:Nat) (dst nm:Bs) (args:List Ag) (pos:Int × Int) (v:Value) (w:World) (hop:op<=255) (hd:dst.length<=140737488355328) (hm:nm.length<=140737488355328) (ha:∀ a ∈ args,a.nm.length<=140737488355328) (h:SlG kAg (·<w.heap.size) w v args) :
  Calls Tryz.prog 96 #[.agg #[.int .u8 ((8:Nat):Int),.int .u8 (op:Int),.string ⟨dst.toArray⟩,.string ⟨nm.toArray⟩,v,.int .i64 pos.1,.int .i64 pos.2]] w fun e w'=>e=.returned (.bool (formB ⟨8,op,dst,nm,args,pos⟩))/\Below w.heap.size w w' :=
 rform_gft 8 0 (by decide) (by decide) (fun w=>rfields_8 w) op dst nm args pos v w hop hd hm ha h (form_sig 8 0 op dst nm args pos false true (by decide) (by decide) rfl (by decide))
theorem rform_9 (op:Nat) (dst nm:Bs) (args:List Ag) (pos:Int × Int) (v:Value) (w:World) (hop:op<=255) (hd:dst.length<=140737488355328) (hm:nm.length<=140737488355328) (ha:∀ a ∈ args,a.nm.length<=140737488355328) (h:SlG kAg (·<w.heap.size) w v args) :
  Calls Tryz.prog 96 #[.agg #[.int .u8 ((9:Nat):Int),.int .u8 (op:Int),.string ⟨dst.toArray⟩,.string ⟨nm.toArray⟩,v,.int .i64 pos.1,.int .i64 pos.2]] w fun e w'=>e=.returned (.bool (formB ⟨9,op,dst,nm,args,pos⟩))/\Below w.heap.size w w' :=
 rform_gft 9 1 (by decide) (by decide) (fun w=>rfields_9 w) op dst nm args pos v w hop hd hm ha h (form_sig 9 1 op dst nm args pos false true (by decide) (by decide) rfl (by decide))
theorem rform_10 (op:Nat) (dst nm:Bs) (args:List Ag) (pos:Int × Int) (v:Value) (w:World) (hop:op<=255) (hd:dst.length<=140737488355328) (hm:nm.length<=140737488355328) (ha:∀ a ∈ args,a.nm.length<=140737488355328) (h:SlG kAg (·<w.heap.size) w v args) :
  Calls Tryz.prog 96 #[.agg #[.int .u8 ((10:Nat):Int),.int .u8 (op:Int),.string ⟨dst.toArray⟩,.string ⟨nm.toArray⟩,v,.int .i64 pos.1,.int .i64 pos.2]] w fun e w'=>e=.returned (.bool (formB ⟨10,op,dst,nm,args,pos⟩))/\Below w.heap.size w w' :=
 rform_gft 10 0 (by decide) (by decide) (fun w=>rfields_10 w) op dst nm args pos v w hop hd hm ha h (form_sig 10 0 op dst nm args pos false true (by decide) (by decide) rfl (by decide))
theorem rform_11 (op:Nat) (dst nm:Bs) (args:List Ag) (pos:Int × Int) (v:Value) (w:World) (hop:op<=255) (hd:dst.length<=140737488355328) (hm:nm.length<=140737488355328) (ha:∀ a ∈ args,a.nm.length<=140737488355328) (h:SlG kAg (·<w.heap.size) w v args) :
  Calls Tryz.prog 96 #[.agg #[.int .u8 ((11:Nat):Int),.int .u8 (op:Int),.string ⟨dst.toArray⟩,.string ⟨nm.toArray⟩,v,.int .i64 pos.1,.int .i64 pos.2]] w fun e w'=>e=.returned (.bool (formB ⟨11,op,dst,nm,args,pos⟩))/\Below w.heap.size w w' :=
 rform_gff 11 0 (by decide) (by decide) (fun w=>rfields_11 w) op dst nm args pos v w hop hd hm ha h (form_sig 11 0 op dst nm args pos false false (by decide) (by decide) rfl (by decide))
theorem rform_12 (op:Nat) (dst nm:Bs) (args:List Ag) (pos:Int × Int) (v:Value) (w:World) (hop:op<=255) (hd:dst.length<=140737488355328) (hm:nm.length<=140737488355328) (ha:∀ a ∈ args,a.nm.length<=140737488355328) (h:SlG kAg (·<w.heap.size) w v args) :
  Calls Tryz.prog 96 #[.agg #[.int .u8 ((12:Nat):Int),.int .u8 (op:Int),.string ⟨dst.toArray⟩,.string ⟨nm.toArray⟩,v,.int .i64 pos.1,.int .i64 pos.2]] w fun e w'=>e=.returned (.bool (formB ⟨12,op,dst,nm,args,pos⟩))/\Below w.heap.size w w' :=
 rform_gff 12 1 (by decide) (by decide) (fun w=>rfields_12 w) op dst nm args pos v w hop hd hm ha h (form_sig 12 1 op dst nm args pos false false (by decide) (by decide) rfl (by decide))
theorem rform_x (kind op:Nat) (dst nm:Bs) (args:List Ag) (pos:Int × Int) (v:Value) (w:World) (hk:13<=kind) (h:SlG kAg (·<w.heap.size) w v args) :
  Calls Tryz.prog 96 #[.agg #[.int .u8 (kind:Int),.int .u8 (op:Int),.string ⟨dst.toArray⟩,.string ⟨nm.toArray⟩,v,.int .i64 pos.1,.int .i64 pos.2]] w fun e w'=>e=.returned (.bool (formB ⟨kind,op,dst,nm,args,pos⟩))/\Below w.heap.size w w':=by
 obtain ⟨pa,ca,rfl⟩:=h.slc
 have HF:=hid (show formB ⟨kind,op,dst,nm,args,pos⟩=false from by unfold formB;simp [show ¬ kind<13 from by omega])
 rw [HF.out]
 have HK:=hid hk
 clear h hk
 go_enter Tryz.func96,Tryz.ntmps96
 go_upto_region 1 with fail
 obtain ⟨wo,hwo⟩:∃ W,w.alloc (.cells #[.int .u8 (kind:Int),.int .u8 (op:Int),.string ⟨dst.toArray⟩,.string ⟨nm.toArray⟩,.slice pa args.length ca,.int .i64 pos.1,.int .i64 pos.2] 41)=W:=⟨_,rfl⟩
 have HX0:=hid (show BxL 41 w.heap.size [.int .u8 (kind:Int),.int .u8 (op:Int),.string ⟨dst.toArray⟩,.string ⟨nm.toArray⟩,.slice pa args.length ca,.int .i64 pos.1,.int .i64 pos.2] wo from by rw [<- hwo];exact BxL.new _ _ _)
 have HB0:=hid (show Below w.heap.size w wo from by rw [<- hwo];exact bA)
 rw [hwo]
 clear hwo
 have x0:wo.cell? ⟨w.heap.size,0,none⟩=some (.int .u8 (kind:Int)):=HX0.at 0 rfl
 go_wp2_with (go_at_call 137;(refine (rfields_x kind HK.out _).mono ?_);rintro e w1 ⟨rfl,hb1⟩;have HB1:=hid (HB0.out.trans (hb1.mono HB0.out.size));clear hb1)
 go_ret
 exact ⟨rfl,HB1.alloc HB1.size _⟩
theorem rform_any (x:In) (v:Value) (w:World) (hop:x.op<=255) (hd:x.dst.length<=140737488355328) (hm:x.nm.length<=140737488355328) (ha:∀ a ∈ x.args,a.nm.length<=140737488355328) (h:SlG kAg (·<w.heap.size) w v x.args) :
  Calls Tryz.prog 96 #[.agg #[.int .u8 (x.kind:Int),.int .u8 (x.op:Int),.string ⟨x.dst.toArray⟩,.string ⟨x.nm.toArray⟩,v,.int .i64 x.pos.1,.int .i64 x.pos.2]] w fun e w'=>e=.returned (.bool (formB x))/\Below w.heap.size w w':=by
 obtain ⟨kind,op,dst,nm,args,pos⟩:=x
 simp only at h hop hd hm ha ⊢
 by_cases hk:13<=kind
 ·exact rform_x kind op dst nm args pos v w hk h
 rcases (show kind=0\/kind=1\/kind=2\/kind=3\/kind=4\/kind=5\/kind=6\/kind=7\/kind=8\/kind=9\/kind=10\/kind=11\/kind=12 by omega) with rfl | rfl | rfl | rfl | rfl | rfl | rfl | rfl | rfl | rfl | rfl | rfl | rfl
 ·exact rform_0 op dst nm args pos v w hop hd hm ha h
 ·exact rform_1 op dst nm args pos v w hop hd hm ha h
 ·exact rform_2 op dst nm args pos v w hop hd hm ha h
 ·exact rform_3 op dst nm args pos v w hop hd hm ha h
 ·exact rform_4 op dst nm args pos v w hop hd hm ha h
 ·exact rform_5 op dst nm args pos v w hop hd hm ha h
 ·exact rform_6 op dst nm args pos v w hop hd hm ha h
 ·exact rform_7 op dst nm args pos v w hop hd hm ha h
 ·exact rform_8 op dst nm args pos v w hop hd hm ha h
 ·exact rform_9 op dst nm args pos v w hop hd hm ha h
 ·exact rform_10 op dst nm args pos v w hop hd hm ha h
 ·exact rform_11 op dst nm args pos v w hop hd hm ha h
 ·exact rform_12 op dst nm args pos v w hop hd hm ha h
end Go.Proofs.YtoofbgoeipijcaaGreatDoor
