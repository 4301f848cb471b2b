/-
 A part.
-/
import Derived.Test.YtoofbgoeipijcaaGreatDoorVB9
import Derived.Deep.DeepCutAuto
namespace Go.Proofs.YtoofbgoeipijcaaGreatDoor
set_option linter.all false
open Go.RowKit Go.Shelf
attribute [local go_sem] Oper.semAt_some
theorem two_after {w w':World} {t:TypeId} {a b:Value} (h:Below (w.alloc (.cells #[a,b] t)).heap.size (w.alloc (.cells #[a,b] t)) w'):w'.cell? ⟨w.heap.size,1,none⟩=some b:=by
 have hc:(w.alloc (.cells #[a,b] t)).cell? ⟨w.heap.size,1,none⟩=some b:=by rw [cell_al];simp
 exact cB h hc
def FormPost (x:In) (w:World) (e:Ending) (w':World):Prop:=e=.returned (.bool (formB x))/\Below w.heap.size w w'
theorem named_ne {s:Bs} (h:namedB s=true):¬ s=[]:=by rintro rfl;exact absurd h (by decide)
set_option maxRecDepth 100000 in
set_option maxHeartbeats 4000000 in
theorem formed_any (x:In) (pa:Option Addr) (ca B:Nat) (w:World) (hE:PrB B w) (ha:SlG kAg (·<w.heap.size) w (.slice pa x.args.length ca) x.args) (hk:x.kind<=255) (ho:x.op<=255) :
  Calls Tryz.prog 156 #[.agg #[.int .u8 (x.kind:Int),.int .u8 (x.op:Int),.string ⟨x.dst.toArray⟩,.string ⟨x.nm.toArray⟩,.slice pa x.args.length ca,.int .i64 x.pos.1,.int .i64 x.pos.2]] w (FormPost x w):=by
 by_cases h13:13<=x.kind
 ·have HM:=hid (show formB x=false from by unfold formB;rw [decide_eq_false (by omega:¬ x.kind<13)];simp)
  have g1:decide (13<=(x.kind:Int))=true:=by simp;omega
  clear h13 hE ha ho
  go_enter Tryz.func156,Tryz.ntmps156
  go_wp2
  go_ret
  exact ⟨by rw [HM.out];rfl,bA⟩
 have g1:decide (13<=(x.kind:Int))=false:=by simp;omega
 have hE0:=hE.e.form x.kind (by omega)
 obtain ⟨f0,f1,f2⟩:=hE0
 rw [Nat.mul_comm 3] at f0 f1 f2
 have hlt:=cell_size f0
 obtain ⟨fd,hfd⟩:∃ b,(fieldsL.getD x.kind (false,false,0)).1=b:=⟨_,rfl⟩
 obtain ⟨fn,hfn⟩:∃ b,(fieldsL.getD x.kind (false,false,0)).2.1=b:=⟨_,rfl⟩
 obtain ⟨w2,hw2⟩:∃ b,(fieldsL.getD x.kind (false,false,0)).2.2=b:=⟨_,rfl⟩
 rw [hfd] at f0;rw [hfn] at f1;rw [hw2] at f2
 have hne:¬ 4=w.heap.size:=by omega
 have hk13:(x.kind:Int)<13:=by omega
 have HMF:=hid (show formB x=(opOkB x && (fieldB fd x.dst && fieldB fn x.nm) && ((decide (wantM x<0) || decide ((x.args.length:Int)=wantM x)) && decide (x.args.length<=32)) && x.args.all argB) from by
  unfold formB;rw [hfd,hfn,decide_eq_true (by omega:x.kind<13)];simp only [Bool.true_and,Bool.and_assoc])
 have HWM:=hid (show wantM x=if x.kind=1 then (arityM x.op:Int) else w2 from by unfold wantM;rw [hw2])
 have HOK:=hid (show opOkB x=if x.kind=1 then decide (2<=x.op) && decide (x.op<=20) else decide (x.op=0) from rfl)
 have HE:=hid hE;have HA:=hid ha;have HK:=hid hk;have HO:=hid ho;have H13:=hid h13
 clear hE ha hfd hfn hw2 hk ho h13
 go_enter Tryz.func156,Tryz.ntmps156
 go_upto_if 19 with fail
 obtain ⟨wb,hwb⟩:∃ W,(w.alloc (.cells #[.int .u8 (x.kind:Int),.int .u8 (x.op:Int),.string ⟨x.dst.toArray⟩,.string ⟨x.nm.toArray⟩,.slice pa x.args.length ca,.int .i64 x.pos.1,.int .i64 x.pos.2] 41)).alloc (.cells #[.bool fd,.bool fn,.int .i64 w2] 231)=W:=⟨_,rfl⟩
 have hb1:BxL 41 w.heap.size (inL x (.slice pa x.args.length ca)) wb:=by rw [<- hwb];exact (BxL.new _ w _).al _
 have hb3:BxL 231 (w.heap.size+1) [.bool fd,.bool fn,.int .i64 w2] wb:=by
  have:=BxL.new 231 (w.alloc (.cells #[.int .u8 (x.kind:Int),.int .u8 (x.op:Int),.string ⟨x.dst.toArray⟩,.string ⟨x.nm.toArray⟩,.slice pa x.args.length ca,.int .i64 x.pos.1,.int .i64 x.pos.2] 41)) [.bool fd,.bool fn,.int .i64 w2]
  rw [sA,hwb] at this;exact this
 have hbw:Below w.heap.size w wb:=by rw [<- hwb];exact (bA).alloc (by rw [sA];omega) _
 have hsz:wb.heap.size=w.heap.size+2:=by rw [<- hwb,sA,sA]
 rw [hwb]
 clear hwb f0 f1 f2
 have HB1:=hid hb1;have HB3:=hid hb3;have HBW:=hid hbw
 go_cut [4] (fun s4 wx=>s4=.int .i64 (wantM x)/\opOkB x=true/\BxL 41 w.heap.size (inL x (.slice pa x.args.length ca)) wx/\BxL 231 (w.heap.size+1) [.bool fd,.bool fn,.int .i64 w2] wx/\Below w.heap.size w wx)
 case first =>
  have c1:wb.cell? ⟨w.heap.size,1,none⟩=some (.int .u8 (x.op:Int)):=hb1.at 1 rfl
  clear hb1 hb3 hbw
  by_cases h1:x.kind=1
  ·have t1:((x.kind:Int) == 1)=true:=by rw [h1];rfl
   have HWM1:=hid (show wantM x=(arityM x.op:Int) from by rw [HWM.out,if_pos h1])
   have HOK1:=hid (show opOkB x=(decide (2<=x.op) && decide (x.op<=20)) from by rw [HOK.out,if_pos h1])
   clear h1
   rcases (show x.op<2\/(2<=x.op/\20<x.op)\/(2<=x.op/\x.op<=20) by omega) with h | ⟨h,h'⟩ | ⟨h,h'⟩
   ·have t2:decide ((x.op:Int)<2)=true:=by simp;omega
    have HM:=hid (show formB x=false from by rw [HMF.out,HOK1.out,decide_eq_false (by omega:¬ 2<=x.op)];simp)
    clear h
    go_wp2
    go_ret
    exact ⟨by rw [HM.out];rfl,HBW.out⟩
   ·have t2:decide ((x.op:Int)<2)=false:=by simp;omega
    have t3:decide (20<(x.op:Int))=true:=by simp;omega
    have HM:=hid (show formB x=false from by rw [HMF.out,HOK1.out,decide_eq_false (by omega:¬ x.op<=20)];simp)
    clear h h'
    go_wp2
    go_ret
    exact ⟨by rw [HM.out];rfl,HBW.out⟩
   ·have t2:decide ((x.op:Int)<2)=false:=by simp;omega
    have t3:decide (20<(x.op:Int))=false:=by simp;omega
    have HM:=hid (show opOkB x=true from by rw [HOK1.out,decide_eq_true h,decide_eq_true h'];rfl)
    have HH:=hid h'
    clear h h'
    go_wp2_with (go_at_call 201;with_reducible refine (arity_any x.op (by have:=HH.out;omega) _).mono ?_;rintro e wy ⟨rfl,hby⟩)
    go_meet
    case rel=>exact ⟨by rw [HWM1.out],HM.out,HB1.bel hby,HB3.bel hby,HBW.trans (hby.mono HBW.size)⟩
  ·have t1:((x.kind:Int) == 1)=false:=by simp;omega
   have HWM1:=hid (show wantM x=w2 from by rw [HWM.out,if_neg h1])
   have HOK1:=hid (show opOkB x=decide (x.op=0) from by rw [HOK.out,if_neg h1])
   clear h1
   by_cases h:x.op=0
   ·have t2:((x.op:Int) != 0)=false:=by rw [h];rfl
    have HM:=hid (show opOkB x=true from by rw [HOK1.out,decide_eq_true h])
    clear h
    go_wp2
    go_meet
    case rel=>exact ⟨by rw [HWM1.out],HM.out,HB1.out,HB3.out,HBW.out⟩
   ·have t2:((x.op:Int) != 0)=true:=by simp;omega
    have HM:=hid (show formB x=false from by rw [HMF.out,HOK1.out,decide_eq_false h];simp)
    clear h
    go_wp2
    go_ret
    exact ⟨by rw [HM.out];rfl,HBW.out⟩
 case rest =>
 obtain ⟨rfl,hok,hb1',hb3',hbw'⟩:=hcut
 clear hb1 hb3 hbw hsz HB1 HB3 HBW
 have HOKT:=hid hok;have HB1:=hid hb1';have HB3:=hid hb3';have HBW:=hid hbw'
 clear hok hb1' hb3' hbw'
 go_upto_region 11 with fail
 go_cut [70] (fun s70 wx=>s70=.bool (!(fieldB fd x.dst && fieldB fn x.nm))/\BxL 41 w.heap.size (inL x (.slice pa x.args.length ca)) wx/\Below w.heap.size w wx)
 case first =>
  obtain ⟨d,hd⟩:∃ d,x.dst=d:=⟨_,rfl⟩
  obtain ⟨n,hn⟩:∃ d,x.nm=d:=⟨_,rfl⟩
  have hS:(fun W=>W.cell? ⟨w.heap.size,2,none⟩=some (.string ⟨d.toArray⟩)/\W.cell? ⟨w.heap.size,3,none⟩=some (.string ⟨n.toArray⟩)/\W.cell? ⟨w.heap.size+1,0,none⟩=some (.bool fd)/\W.cell? ⟨w.heap.size+1,1,none⟩=some (.bool fn)) wc.drew:=⟨by rw [<- hd];exact HB1.at 2 rfl,by rw [<- hn];exact HB1.at 3 rfl,HB3.at 0 rfl,HB3.at 1 rfl⟩
  have HD:=hid hd;have HN:=hid hn
  clear hd hn
  have HND:=hid (fun W hW=>named_any d W hW)
  have HNN:=hid (fun W hW=>named_any n W hW)
  cases fd with
  | true =>
   cases hdv:namedB d with
   | true =>
    have HDV:=hid hdv;clear hdv
    cases fn with
    | true =>
     cases hnv:namedB n with
     | true =>
      have HNV:=hid hnv;clear hnv
      have hFa:=fT
      refine rgN (fun W=>W.cell? ⟨w.heap.size,2,none⟩=some (.string ⟨d.toArray⟩)/\W.cell? ⟨w.heap.size,3,none⟩=some (.string ⟨n.toArray⟩)/\W.cell? ⟨w.heap.size+1,0,none⟩=some (.bool true)/\W.cell? ⟨w.heap.size+1,1,none⟩=some (.bool true)) 34 (by kernel_rfl) ?_
      simp only [zP,Nat.reduceAdd]
      iterate 4 (refine nxW (v:=?_) 34 hS ?_ ?_;rotate_left;(focus intro w' hS';obtain ⟨s0,s1,s2,s3⟩:=hS';go_simp;try rfl);simp only [aP])
      refine oy 4 fun K hK=>?_
      go_simp
      (with_reducible refine (callsIn_wide.2 (HND.out _ (HE.out.step ((HBW.out.drew).mono HE.out.size)).e)).mono ?_)
      rintro e wd ⟨rfl,hbd⟩
      rw [HDV.out]
      have hSd:(fun W=>W.cell? ⟨w.heap.size,2,none⟩=some (.string ⟨d.toArray⟩)/\W.cell? ⟨w.heap.size,3,none⟩=some (.string ⟨n.toArray⟩)/\W.cell? ⟨w.heap.size+1,0,none⟩=some (.bool true)/\W.cell? ⟨w.heap.size+1,1,none⟩=some (.bool true)) wd:=⟨cB hbd hS.1,cB hbd hS.2.1,cB hbd hS.2.2.1,cB hbd hS.2.2.2⟩
      have HBD:=hid (HBW.drew.trans (hbd.mono HBW.size))
      have HB1D:=hid ((show BxL 41 w.heap.size (inL x (.slice pa x.args.length ca)) wc.drew from HB1.out).bel hbd)
      clear hbd hS
      refine hK _ _ (.inr (.inr hSd)) ?_
      clear hK K
      iterate 16 (refine wpHJ_nx (v:=?_) 34 rfl rfl (by kernel_rfl) nE hSd ?_ ?_;rotate_left;(focus first | (refine Or.inr ⟨?_,?_⟩;(focus (simp [Region.wanted,yielded,undef];done));rfl) | (refine Or.inl ⟨?_,?_⟩;(focus (simp [Region.wanted,yielded,undef];done));intro w' hS';obtain ⟨s0,s1,s2,s3⟩:=hS';go_simp;try rfl));simp only [aP])
      refine oy 21 fun K hK=>?_
      rw [if_pos (by simp [Region.wanted,yielded,undef])]
      go_simp
      (with_reducible refine (callsIn_wide.2 (HNN.out _ (HE.out.step (HBD.out.mono HE.out.size)).e)).mono ?_)
      rintro e wn ⟨rfl,hbn⟩
      rw [HNV.out]
      have hSn:(fun W=>W.cell? ⟨w.heap.size,2,none⟩=some (.string ⟨d.toArray⟩)/\W.cell? ⟨w.heap.size,3,none⟩=some (.string ⟨n.toArray⟩)/\W.cell? ⟨w.heap.size+1,0,none⟩=some (.bool true)/\W.cell? ⟨w.heap.size+1,1,none⟩=some (.bool true)) wn:=⟨cB hbn hSd.1,cB hbn hSd.2.1,cB hbn hSd.2.2.1,cB hbn hSd.2.2.2⟩
      have HBN:=hid (HBD.trans (hbn.mono HBD.size))
      have HB1N:=hid (HB1D.bel hbn)
      clear hbn hSd
      refine hK _ _ (.inr (.inr hSn)) ?_
      clear hK K
      iterate 11 (refine wpHJ_nx (v:=?_) 34 rfl rfl (by kernel_rfl) nE hSn ?_ ?_;rotate_left;(focus first | (refine Or.inr ⟨?_,?_⟩;(focus (simp [Region.wanted,yielded,undef];done));rfl) | (refine Or.inl ⟨?_,?_⟩;(focus (simp [Region.wanted,yielded,undef];done));intro w' hS';obtain ⟨s0,s1,s2,s3⟩:=hS';go_simp;try rfl));simp only [aP])
      refine oy 33 fun K hK=>?_
      go_simp
      refine hK _ _ (.inr (.inr hSn)) (dN ?_)
      clear hK K
      simp only [onlyN,Exit.then]
      clear hFa
      go_wp2_with fail
      go_meet
      case rel=>exact ⟨by rw [HD.out,HN.out];first | rfl | (simp [fieldB,HDV.out,HNV.out];done) | (simp [fieldB,HDV.out,HNV.out,HNE.out];done) | (simp [fieldB,HDV.out,HNV.out,HDE.out];done) | (simp [fieldB,HDV.out,HNV.out,named_ne HNV.out];done) | (simp [fieldB,HDV.out,HNV.out,named_ne HDV.out];done),HB1N.out,HBN.out⟩
     | false =>
      have HNV:=hid hnv;clear hnv
      have hFa:=fT
      refine rgN (fun W=>W.cell? ⟨w.heap.size,2,none⟩=some (.string ⟨d.toArray⟩)/\W.cell? ⟨w.heap.size,3,none⟩=some (.string ⟨n.toArray⟩)/\W.cell? ⟨w.heap.size+1,0,none⟩=some (.bool true)/\W.cell? ⟨w.heap.size+1,1,none⟩=some (.bool true)) 34 (by kernel_rfl) ?_
      simp only [zP,Nat.reduceAdd]
      iterate 4 (refine nxW (v:=?_) 34 hS ?_ ?_;rotate_left;(focus intro w' hS';obtain ⟨s0,s1,s2,s3⟩:=hS';go_simp;try rfl);simp only [aP])
      refine oy 4 fun K hK=>?_
      go_simp
      (with_reducible refine (callsIn_wide.2 (HND.out _ (HE.out.step ((HBW.out.drew).mono HE.out.size)).e)).mono ?_)
      rintro e wd ⟨rfl,hbd⟩
      rw [HDV.out]
      have hSd:(fun W=>W.cell? ⟨w.heap.size,2,none⟩=some (.string ⟨d.toArray⟩)/\W.cell? ⟨w.heap.size,3,none⟩=some (.string ⟨n.toArray⟩)/\W.cell? ⟨w.heap.size+1,0,none⟩=some (.bool true)/\W.cell? ⟨w.heap.size+1,1,none⟩=some (.bool true)) wd:=⟨cB hbd hS.1,cB hbd hS.2.1,cB hbd hS.2.2.1,cB hbd hS.2.2.2⟩
      have HBD:=hid (HBW.drew.trans (hbd.mono HBW.size))
      have HB1D:=hid ((show BxL 41 w.heap.size (inL x (.slice pa x.args.length ca)) wc.drew from HB1.out).bel hbd)
      clear hbd hS
      refine hK _ _ (.inr (.inr hSd)) ?_
      clear hK K
      iterate 16 (refine wpHJ_nx (v:=?_) 34 rfl rfl (by kernel_rfl) nE hSd ?_ ?_;rotate_left;(focus first | (refine Or.inr ⟨?_,?_⟩;(focus (simp [Region.wanted,yielded,undef];done));rfl) | (refine Or.inl ⟨?_,?_⟩;(focus (simp [Region.wanted,yielded,undef];done));intro w' hS';obtain ⟨s0,s1,s2,s3⟩:=hS';go_simp;try rfl));simp only [aP])
      refine oy 21 fun K hK=>?_
      rw [if_pos (by simp [Region.wanted,yielded,undef])]
      go_simp
      (with_reducible refine (callsIn_wide.2 (HNN.out _ (HE.out.step (HBD.out.mono HE.out.size)).e)).mono ?_)
      rintro e wn ⟨rfl,hbn⟩
      rw [HNV.out]
      have hSn:(fun W=>W.cell? ⟨w.heap.size,2,none⟩=some (.string ⟨d.toArray⟩)/\W.cell? ⟨w.heap.size,3,none⟩=some (.string ⟨n.toArray⟩)/\W.cell? ⟨w.heap.size+1,0,none⟩=some (.bool true)/\W.cell? ⟨w.heap.size+1,1,none⟩=some (.bool true)) wn:=⟨cB hbn hSd.1,cB hbn hSd.2.1,cB hbn hSd.2.2.1,cB hbn hSd.2.2.2⟩
      have HBN:=hid (HBD.trans (hbn.mono HBD.size))
      have HB1N:=hid (HB1D.bel hbn)
      clear hbn hSd
      refine hK _ _ (.inr (.inr hSn)) ?_
      clear hK K
      iterate 11 (refine wpHJ_nx (v:=?_) 34 rfl rfl (by kernel_rfl) nE hSn ?_ ?_;rotate_left;(focus first | (refine Or.inr ⟨?_,?_⟩;(focus (simp [Region.wanted,yielded,undef];done));rfl) | (refine Or.inl ⟨?_,?_⟩;(focus (simp [Region.wanted,yielded,undef];done));intro w' hS';obtain ⟨s0,s1,s2,s3⟩:=hS';go_simp;try rfl));simp only [aP])
      refine oy 33 fun K hK=>?_
      go_simp
      refine hK _ _ (.inr (.inr hSn)) (dN ?_)
      clear hK K
      simp only [onlyN,Exit.then]
      clear hFa
      go_wp2_with fail
      go_meet
      case rel=>exact ⟨by rw [HD.out,HN.out];first | rfl | (simp [fieldB,HDV.out,HNV.out];done) | (simp [fieldB,HDV.out,HNV.out,HNE.out];done) | (simp [fieldB,HDV.out,HNV.out,HDE.out];done) | (simp [fieldB,HDV.out,HNV.out,named_ne HNV.out];done) | (simp [fieldB,HDV.out,HNV.out,named_ne HDV.out];done),HB1N.out,HBN.out⟩
    | false =>
     cases hnv:namedB n with
     | true =>
      have HNV:=hid hnv;clear hnv
      have hFa:=fT
      refine rgN (fun W=>W.cell? ⟨w.heap.size,2,none⟩=some (.string ⟨d.toArray⟩)/\W.cell? ⟨w.heap.size,3,none⟩=some (.string ⟨n.toArray⟩)/\W.cell? ⟨w.heap.size+1,0,none⟩=some (.bool true)/\W.cell? ⟨w.heap.size+1,1,none⟩=some (.bool false)) 34 (by kernel_rfl) ?_
      simp only [zP,Nat.reduceAdd]
      iterate 4 (refine nxW (v:=?_) 34 hS ?_ ?_;rotate_left;(focus intro w' hS';obtain ⟨s0,s1,s2,s3⟩:=hS';go_simp;try rfl);simp only [aP])
      refine oy 4 fun K hK=>?_
      go_simp
      (with_reducible refine (callsIn_wide.2 (HND.out _ (HE.out.step ((HBW.out.drew).mono HE.out.size)).e)).mono ?_)
      rintro e wd ⟨rfl,hbd⟩
      rw [HDV.out]
      have hSd:(fun W=>W.cell? ⟨w.heap.size,2,none⟩=some (.string ⟨d.toArray⟩)/\W.cell? ⟨w.heap.size,3,none⟩=some (.string ⟨n.toArray⟩)/\W.cell? ⟨w.heap.size+1,0,none⟩=some (.bool true)/\W.cell? ⟨w.heap.size+1,1,none⟩=some (.bool false)) wd:=⟨cB hbd hS.1,cB hbd hS.2.1,cB hbd hS.2.2.1,cB hbd hS.2.2.2⟩
      have HBD:=hid (HBW.drew.trans (hbd.mono HBW.size))
      have HB1D:=hid ((show BxL 41 w.heap.size (inL x (.slice pa x.args.length ca)) wc.drew from HB1.out).bel hbd)
      clear hbd hS
      refine hK _ _ (.inr (.inr hSd)) ?_
      clear hK K
      iterate 16 (refine wpHJ_nx (v:=?_) 34 rfl rfl (by kernel_rfl) nE hSd ?_ ?_;rotate_left;(focus first | (refine Or.inr ⟨?_,?_⟩;(focus (simp [Region.wanted,yielded,undef];done));rfl) | (refine Or.inl ⟨?_,?_⟩;(focus (simp [Region.wanted,yielded,undef];done));intro w' hS';obtain ⟨s0,s1,s2,s3⟩:=hS';go_simp;try rfl));simp only [aP])
      refine oy 21 fun K hK=>?_
      rw [if_pos (by simp [Region.wanted,yielded,undef])]
      go_simp
      (with_reducible refine (callsIn_wide.2 (HNN.out _ (HE.out.step (HBD.out.mono HE.out.size)).e)).mono ?_)
      rintro e wn ⟨rfl,hbn⟩
      rw [HNV.out]
      have hSn:(fun W=>W.cell? ⟨w.heap.size,2,none⟩=some (.string ⟨d.toArray⟩)/\W.cell? ⟨w.heap.size,3,none⟩=some (.string ⟨n.toArray⟩)/\W.cell? ⟨w.heap.size+1,0,none⟩=some (.bool true)/\W.cell? ⟨w.heap.size+1,1,none⟩=some (.bool false)) wn:=⟨cB hbn hSd.1,cB hbn hSd.2.1,cB hbn hSd.2.2.1,cB hbn hSd.2.2.2⟩
      have HBN:=hid (HBD.trans (hbn.mono HBD.size))
      have HB1N:=hid (HB1D.bel hbn)
      clear hbn hSd
      refine hK _ _ (.inr (.inr hSn)) ?_
      clear hK K
      iterate 11 (refine wpHJ_nx (v:=?_) 34 rfl rfl (by kernel_rfl) nE hSn ?_ ?_;rotate_left;(focus first | (refine Or.inr ⟨?_,?_⟩;(focus (simp [Region.wanted,yielded,undef];done));rfl) | (refine Or.inl ⟨?_,?_⟩;(focus (simp [Region.wanted,yielded,undef];done));intro w' hS';obtain ⟨s0,s1,s2,s3⟩:=hS';go_simp;try rfl));simp only [aP])
      refine oy 33 fun K hK=>?_
      go_simp
      refine hK _ _ (.inr (.inr hSn)) (dN ?_)
      clear hK K
      simp only [onlyN,Exit.then]
      clear hFa
      go_wp2_with fail
      go_meet
      case rel=>exact ⟨by rw [HD.out,HN.out];first | rfl | (simp [fieldB,HDV.out,HNV.out];done) | (simp [fieldB,HDV.out,HNV.out,HNE.out];done) | (simp [fieldB,HDV.out,HNV.out,HDE.out];done) | (simp [fieldB,HDV.out,HNV.out,named_ne HNV.out];done) | (simp [fieldB,HDV.out,HNV.out,named_ne HDV.out];done),HB1N.out,HBN.out⟩
     | false =>
      have HNV:=hid hnv;clear hnv
      by_cases hne:n=[]
      ·subst hne
       have hFa:=fT
       refine rgN (fun W=>W.cell? ⟨w.heap.size,2,none⟩=some (.string ⟨d.toArray⟩)/\W.cell? ⟨w.heap.size,3,none⟩=some (.string ⟨([]:Bs).toArray⟩)/\W.cell? ⟨w.heap.size+1,0,none⟩=some (.bool true)/\W.cell? ⟨w.heap.size+1,1,none⟩=some (.bool false)) 34 (by kernel_rfl) ?_
       simp only [zP,Nat.reduceAdd]
       iterate 4 (refine nxW (v:=?_) 34 hS ?_ ?_;rotate_left;(focus intro w' hS';obtain ⟨s0,s1,s2,s3⟩:=hS';go_simp;try rfl);simp only [aP])
       refine oy 4 fun K hK=>?_
       go_simp
       (with_reducible refine (callsIn_wide.2 (HND.out _ (HE.out.step ((HBW.out.drew).mono HE.out.size)).e)).mono ?_)
       rintro e wd ⟨rfl,hbd⟩
       rw [HDV.out]
       have hSd:(fun W=>W.cell? ⟨w.heap.size,2,none⟩=some (.string ⟨d.toArray⟩)/\W.cell? ⟨w.heap.size,3,none⟩=some (.string ⟨([]:Bs).toArray⟩)/\W.cell? ⟨w.heap.size+1,0,none⟩=some (.bool true)/\W.cell? ⟨w.heap.size+1,1,none⟩=some (.bool false)) wd:=⟨cB hbd hS.1,cB hbd hS.2.1,cB hbd hS.2.2.1,cB hbd hS.2.2.2⟩
       have HBD:=hid (HBW.drew.trans (hbd.mono HBW.size))
       have HB1D:=hid ((show BxL 41 w.heap.size (inL x (.slice pa x.args.length ca)) wc.drew from HB1.out).bel hbd)
       clear hbd hS
       refine hK _ _ (.inr (.inr hSd)) ?_
       clear hK K
       iterate 16 (refine wpHJ_nx (v:=?_) 34 rfl rfl (by kernel_rfl) nE hSd ?_ ?_;rotate_left;(focus first | (refine Or.inr ⟨?_,?_⟩;(focus (simp [Region.wanted,yielded,undef];done));rfl) | (refine Or.inl ⟨?_,?_⟩;(focus (simp [Region.wanted,yielded,undef];done));intro w' hS';obtain ⟨s0,s1,s2,s3⟩:=hS';go_simp;try rfl));simp only [aP])
       refine oy 21 fun K hK=>?_
       rw [if_pos (by simp [Region.wanted,yielded,undef])]
       go_simp
       (with_reducible refine (callsIn_wide.2 (HNN.out _ (HE.out.step (HBD.out.mono HE.out.size)).e)).mono ?_)
       rintro e wn ⟨rfl,hbn⟩
       rw [HNV.out]
       have hSn:(fun W=>W.cell? ⟨w.heap.size,2,none⟩=some (.string ⟨d.toArray⟩)/\W.cell? ⟨w.heap.size,3,none⟩=some (.string ⟨([]:Bs).toArray⟩)/\W.cell? ⟨w.heap.size+1,0,none⟩=some (.bool true)/\W.cell? ⟨w.heap.size+1,1,none⟩=some (.bool false)) wn:=⟨cB hbn hSd.1,cB hbn hSd.2.1,cB hbn hSd.2.2.1,cB hbn hSd.2.2.2⟩
       have HBN:=hid (HBD.trans (hbn.mono HBD.size))
       have HB1N:=hid (HB1D.bel hbn)
       clear hbn hSd
       refine hK _ _ (.inr (.inr hSn)) ?_
       clear hK K
       iterate 11 (refine wpHJ_nx (v:=?_) 34 rfl rfl (by kernel_rfl) nE hSn ?_ ?_;rotate_left;(focus refine Or.inl ⟨by simp [Region.wanted,yielded,undef],?_⟩;intro w' hS';obtain ⟨s0,s1,s2,s3⟩:=hS';go_simp;try rfl);simp only [aP])
       refine oy 33 fun K hK=>?_
       go_simp
       refine hK _ _ (.inr (.inr hSn)) (dN ?_)
       clear hK K
       simp only [onlyN,Exit.then]
       clear hFa
       go_wp2_with fail
       go_meet
       case rel=>exact ⟨by rw [HD.out,HN.out];first | rfl | (simp [fieldB,HDV.out,HNV.out];done) | (simp [fieldB,HDV.out,HNV.out,HNE.out];done) | (simp [fieldB,HDV.out,HNV.out,HDE.out];done) | (simp [fieldB,HDV.out,HNV.out,named_ne HNV.out];done) | (simp [fieldB,HDV.out,HNV.out,named_ne HDV.out];done),HB1N.out,HBN.out⟩
      ·have HNE:=hid hne
       have e1:(n == [])=false:=beq_eq_false_iff_ne.2 hne
       have e2:n.isEmpty=false:=by cases n with | nil=>exact absurd rfl hne | cons a r=>rfl
       have e3:(n != [])=true:=by rw [bne,e1];rfl
       have hFa:=fT
       refine rgN (fun W=>W.cell? ⟨w.heap.size,2,none⟩=some (.string ⟨d.toArray⟩)/\W.cell? ⟨w.heap.size,3,none⟩=some (.string ⟨n.toArray⟩)/\W.cell? ⟨w.heap.size+1,0,none⟩=some (.bool true)/\W.cell? ⟨w.heap.size+1,1,none⟩=some (.bool false)) 34 (by kernel_rfl) ?_
       simp only [zP,Nat.reduceAdd]
       iterate 4 (refine nxW (v:=?_) 34 hS ?_ ?_;rotate_left;(focus intro w' hS';obtain ⟨s0,s1,s2,s3⟩:=hS';go_simp;try rfl);simp only [aP])
       refine oy 4 fun K hK=>?_
       go_simp
       (with_reducible refine (callsIn_wide.2 (HND.out _ (HE.out.step ((HBW.out.drew).mono HE.out.size)).e)).mono ?_)
       rintro e wd ⟨rfl,hbd⟩
       rw [HDV.out]
       have hSd:(fun W=>W.cell? ⟨w.heap.size,2,none⟩=some (.string ⟨d.toArray⟩)/\W.cell? ⟨w.heap.size,3,none⟩=some (.string ⟨n.toArray⟩)/\W.cell? ⟨w.heap.size+1,0,none⟩=some (.bool true)/\W.cell? ⟨w.heap.size+1,1,none⟩=some (.bool false)) wd:=⟨cB hbd hS.1,cB hbd hS.2.1,cB hbd hS.2.2.1,cB hbd hS.2.2.2⟩
       have HBD:=hid (HBW.drew.trans (hbd.mono HBW.size))
       have HB1D:=hid ((show BxL 41 w.heap.size (inL x (.slice pa x.args.length ca)) wc.drew from HB1.out).bel hbd)
       clear hbd hS
       refine hK _ _ (.inr (.inr hSd)) ?_
       clear hK K
       iterate 16 (refine wpHJ_nx (v:=?_) 34 rfl rfl (by kernel_rfl) nE hSd ?_ ?_;rotate_left;(focus first | (refine Or.inr ⟨?_,?_⟩;(focus (simp [Region.wanted,yielded,undef];done));rfl) | (refine Or.inl ⟨?_,?_⟩;(focus (simp [Region.wanted,yielded,undef];done));intro w' hS';obtain ⟨s0,s1,s2,s3⟩:=hS';go_simp;try rfl));simp only [aP])
       refine oy 21 fun K hK=>?_
       rw [if_pos (by simp [Region.wanted,yielded,undef])]
       go_simp
       (with_reducible refine (callsIn_wide.2 (HNN.out _ (HE.out.step (HBD.out.mono HE.out.size)).e)).mono ?_)
       rintro e wn ⟨rfl,hbn⟩
       rw [HNV.out]
       have hSn:(fun W=>W.cell? ⟨w.heap.size,2,none⟩=some (.string ⟨d.toArray⟩)/\W.cell? ⟨w.heap.size,3,none⟩=some (.string ⟨n.toArray⟩)/\W.cell? ⟨w.heap.size+1,0,none⟩=some (.bool true)/\W.cell? ⟨w.heap.size+1,1,none⟩=some (.bool false)) wn:=⟨cB hbn hSd.1,cB hbn hSd.2.1,cB hbn hSd.2.2.1,cB hbn hSd.2.2.2⟩
       have HBN:=hid (HBD.trans (hbn.mono HBD.size))
       have HB1N:=hid (HB1D.bel hbn)
       clear hbn hSd
       refine hK _ _ (.inr (.inr hSn)) ?_
       clear hK K
       iterate 11 (refine wpHJ_nx (v:=?_) 34 rfl rfl (by kernel_rfl) nE hSn ?_ ?_;rotate_left;(focus refine Or.inl ⟨by simp [Region.wanted,yielded,undef],?_⟩;intro w' hS';obtain ⟨s0,s1,s2,s3⟩:=hS';go_simp;try rfl);simp only [aP])
       refine oy 33 fun K hK=>?_
       go_simp
       refine hK _ _ (.inr (.inr hSn)) (dN ?_)
       clear hK K
       simp only [onlyN,Exit.then]
       clear hFa
       go_wp2_with fail
       go_meet
       case rel=>exact ⟨by rw [HD.out,HN.out];first | rfl | (simp [fieldB,HDV.out,HNV.out];done) | (simp [fieldB,HDV.out,HNV.out,HNE.out];done) | (simp [fieldB,HDV.out,HNV.out,HDE.out];done) | (simp [fieldB,HDV.out,HNV.out,named_ne HNV.out];done) | (simp [fieldB,HDV.out,HNV.out,named_ne HDV.out];done),HB1N.out,HBN.out⟩
   | false =>
    have HDV:=hid hdv;clear hdv
    have HNV:=hid (rfl:namedB n=namedB n)
    have hFa:=fT
    refine rgN (fun W=>W.cell? ⟨w.heap.size,2,none⟩=some (.string ⟨d.toArray⟩)/\W.cell? ⟨w.heap.size,3,none⟩=some (.string ⟨n.toArray⟩)/\W.cell? ⟨w.heap.size+1,0,none⟩=some (.bool true)/\W.cell? ⟨w.heap.size+1,1,none⟩=some (.bool fn)) 34 (by kernel_rfl) ?_
    simp only [zP,Nat.reduceAdd]
    iterate 4 (refine nxW (v:=?_) 34 hS ?_ ?_;rotate_left;(focus intro w' hS';obtain ⟨s0,s1,s2,s3⟩:=hS';go_simp;try rfl);simp only [aP])
    refine oy 4 fun K hK=>?_
    go_simp
    (with_reducible refine (callsIn_wide.2 (HND.out _ (HE.out.step ((HBW.out.drew).mono HE.out.size)).e)).mono ?_)
    rintro e wd ⟨rfl,hbd⟩
    rw [HDV.out]
    have hSd:(fun W=>W.cell? ⟨w.heap.size,2,none⟩=some (.string ⟨d.toArray⟩)/\W.cell? ⟨w.heap.size,3,none⟩=some (.string ⟨n.toArray⟩)/\W.cell? ⟨w.heap.size+1,0,none⟩=some (.bool true)/\W.cell? ⟨w.heap.size+1,1,none⟩=some (.bool fn)) wd:=⟨cB hbd hS.1,cB hbd hS.2.1,cB hbd hS.2.2.1,cB hbd hS.2.2.2⟩
    have HBD:=hid (HBW.drew.trans (hbd.mono HBW.size))
    have HB1D:=hid ((show BxL 41 w.heap.size (inL x (.slice pa x.args.length ca)) wc.drew from HB1.out).bel hbd)
    clear hbd hS
    refine hK _ _ (.inr (.inr hSd)) ?_
    clear hK K
    iterate 16 (refine wpHJ_nx (v:=?_) 34 rfl rfl (by kernel_rfl) nE hSd ?_ ?_;rotate_left;(focus first | (refine Or.inr ⟨?_,?_⟩;(focus (simp [Region.wanted,yielded,undef];done));rfl) | (refine Or.inl ⟨?_,?_⟩;(focus (simp [Region.wanted,yielded,undef];done));intro w' hS';obtain ⟨s0,s1,s2,s3⟩:=hS';go_simp;try rfl));simp only [aP])
    refine oy 21 fun K hK=>?_
    rw [if_neg (by simp [Region.wanted,yielded,undef])]
    go_simp
    refine hK _ _ (.inr (.inr hSd)) ?_
    clear hK K
    iterate 11 (refine wpHJ_nx (v:=?_) 34 rfl rfl (by kernel_rfl) nE hSd ?_ ?_;rotate_left;(focus first | (refine Or.inr ⟨?_,?_⟩;(focus (simp [Region.wanted,yielded,undef];done));rfl) | (refine Or.inl ⟨?_,?_⟩;(focus (simp [Region.wanted,yielded,undef];done));intro w' hS';obtain ⟨s0,s1,s2,s3⟩:=hS';go_simp;try rfl));simp only [aP])
    refine oy 33 fun K hK=>?_
    go_simp
    refine hK _ _ (.inr (.inr hSd)) (dN ?_)
    clear hK K
    simp only [onlyN,Exit.then]
    clear hFa
    go_wp2_with fail
    go_meet
    case rel=>exact ⟨by rw [HD.out,HN.out];first | rfl | (simp [fieldB,HDV.out,HNV.out];done) | (simp [fieldB,HDV.out,HNV.out,HNE.out];done) | (simp [fieldB,HDV.out,HNV.out,HDE.out];done) | (simp [fieldB,HDV.out,HNV.out,named_ne HNV.out];done) | (simp [fieldB,HDV.out,HNV.out,named_ne HDV.out];done),HB1D.out,HBD.out⟩
  | false =>
   cases hdv:namedB d with
   | true =>
    have HDV:=hid hdv;clear hdv
    have HNV:=hid (rfl:namedB n=namedB n)
    have hFa:=fT
    refine rgN (fun W=>W.cell? ⟨w.heap.size,2,none⟩=some (.string ⟨d.toArray⟩)/\W.cell? ⟨w.heap.size,3,none⟩=some (.string ⟨n.toArray⟩)/\W.cell? ⟨w.heap.size+1,0,none⟩=some (.bool false)/\W.cell? ⟨w.heap.size+1,1,none⟩=some (.bool fn)) 34 (by kernel_rfl) ?_
    simp only [zP,Nat.reduceAdd]
    iterate 4 (refine nxW (v:=?_) 34 hS ?_ ?_;rotate_left;(focus intro w' hS';obtain ⟨s0,s1,s2,s3⟩:=hS';go_simp;try rfl);simp only [aP])
    refine oy 4 fun K hK=>?_
    go_simp
    (with_reducible refine (callsIn_wide.2 (HND.out _ (HE.out.step ((HBW.out.drew).mono HE.out.size)).e)).mono ?_)
    rintro e wd ⟨rfl,hbd⟩
    rw [HDV.out]
    have hSd:(fun W=>W.cell? ⟨w.heap.size,2,none⟩=some (.string ⟨d.toArray⟩)/\W.cell? ⟨w.heap.size,3,none⟩=some (.string ⟨n.toArray⟩)/\W.cell? ⟨w.heap.size+1,0,none⟩=some (.bool false)/\W.cell? ⟨w.heap.size+1,1,none⟩=some (.bool fn)) wd:=⟨cB hbd hS.1,cB hbd hS.2.1,cB hbd hS.2.2.1,cB hbd hS.2.2.2⟩
    have HBD:=hid (HBW.drew.trans (hbd.mono HBW.size))
    have HB1D:=hid ((show BxL 41 w.heap.size (inL x (.slice pa x.args.length ca)) wc.drew from HB1.out).bel hbd)
    clear hbd hS
    refine hK _ _ (.inr (.inr hSd)) ?_
    clear hK K
    iterate 16 (refine wpHJ_nx (v:=?_) 34 rfl rfl (by kernel_rfl) nE hSd ?_ ?_;rotate_left;(focus first | (refine Or.inr ⟨?_,?_⟩;(focus (simp [Region.wanted,yielded,undef];done));rfl) | (refine Or.inl ⟨?_,?_⟩;(focus (simp [Region.wanted,yielded,undef];done));intro w' hS';obtain ⟨s0,s1,s2,s3⟩:=hS';go_simp;try rfl));simp only [aP])
    refine oy 21 fun K hK=>?_
    rw [if_neg (by simp [Region.wanted,yielded,undef])]
    go_simp
    refine hK _ _ (.inr (.inr hSd)) ?_
    clear hK K
    iterate 11 (refine wpHJ_nx (v:=?_) 34 rfl rfl (by kernel_rfl) nE hSd ?_ ?_;rotate_left;(focus first | (refine Or.inr ⟨?_,?_⟩;(focus (simp [Region.wanted,yielded,undef];done));rfl) | (refine Or.inl ⟨?_,?_⟩;(focus (simp [Region.wanted,yielded,undef];done));intro w' hS';obtain ⟨s0,s1,s2,s3⟩:=hS';go_simp;try rfl));simp only [aP])
    refine oy 33 fun K hK=>?_
    go_simp
    refine hK _ _ (.inr (.inr hSd)) (dN ?_)
    clear hK K
    simp only [onlyN,Exit.then]
    clear hFa
    go_wp2_with fail
    go_meet
    case rel=>exact ⟨by rw [HD.out,HN.out];first | rfl | (simp [fieldB,HDV.out,HNV.out];done) | (simp [fieldB,HDV.out,HNV.out,HNE.out];done) | (simp [fieldB,HDV.out,HNV.out,HDE.out];done) | (simp [fieldB,HDV.out,HNV.out,named_ne HNV.out];done) | (simp [fieldB,HDV.out,HNV.out,named_ne HDV.out];done),HB1D.out,HBD.out⟩
   | false =>
    have HDV:=hid hdv;clear hdv
    by_cases hde:d=[]
    ·subst hde
     cases fn with
     | true =>
      cases hnv:namedB n with
      | true =>
       have HNV:=hid hnv;clear hnv
       have hFa:=fT
       refine rgN (fun W=>W.cell? ⟨w.heap.size,2,none⟩=some (.string ⟨([]:Bs).toArray⟩)/\W.cell? ⟨w.heap.size,3,none⟩=some (.string ⟨n.toArray⟩)/\W.cell? ⟨w.heap.size+1,0,none⟩=some (.bool false)/\W.cell? ⟨w.heap.size+1,1,none⟩=some (.bool true)) 34 (by kernel_rfl) ?_
       simp only [zP,Nat.reduceAdd]
       iterate 4 (refine nxW (v:=?_) 34 hS ?_ ?_;rotate_left;(focus intro w' hS';obtain ⟨s0,s1,s2,s3⟩:=hS';go_simp;try rfl);simp only [aP])
       refine oy 4 fun K hK=>?_
       go_simp
       (with_reducible refine (callsIn_wide.2 (HND.out _ (HE.out.step ((HBW.out.drew).mono HE.out.size)).e)).mono ?_)
       rintro e wd ⟨rfl,hbd⟩
       rw [HDV.out]
       have hSd:(fun W=>W.cell? ⟨w.heap.size,2,none⟩=some (.string ⟨([]:Bs).toArray⟩)/\W.cell? ⟨w.heap.size,3,none⟩=some (.string ⟨n.toArray⟩)/\W.cell? ⟨w.heap.size+1,0,none⟩=some (.bool false)/\W.cell? ⟨w.heap.size+1,1,none⟩=some (.bool true)) wd:=⟨cB hbd hS.1,cB hbd hS.2.1,cB hbd hS.2.2.1,cB hbd hS.2.2.2⟩
       have HBD:=hid (HBW.drew.trans (hbd.mono HBW.size))
       have HB1D:=hid ((show BxL 41 w.heap.size (inL x (.slice pa x.args.length ca)) wc.drew from HB1.out).bel hbd)
       clear hbd hS
       refine hK _ _ (.inr (.inr hSd)) ?_
       clear hK K
       iterate 16 (refine wpHJ_nx (v:=?_) 34 rfl rfl (by kernel_rfl) nE hSd ?_ ?_;rotate_left;(focus refine Or.inl ⟨by simp [Region.wanted,yielded,undef],?_⟩;intro w' hS';obtain ⟨s0,s1,s2,s3⟩:=hS';go_simp;try rfl);simp only [aP])
       refine oy 21 fun K hK=>?_
       rw [if_pos (by simp [Region.wanted,yielded,undef])]
       go_simp
       (with_reducible refine (callsIn_wide.2 (HNN.out _ (HE.out.step (HBD.out.mono HE.out.size)).e)).mono ?_)
       rintro e wn ⟨rfl,hbn⟩
       rw [HNV.out]
       have hSn:(fun W=>W.cell? ⟨w.heap.size,2,none⟩=some (.string ⟨([]:Bs).toArray⟩)/\W.cell? ⟨w.heap.size,3,none⟩=some (.string ⟨n.toArray⟩)/\W.cell? ⟨w.heap.size+1,0,none⟩=some (.bool false)/\W.cell? ⟨w.heap.size+1,1,none⟩=some (.bool true)) wn:=⟨cB hbn hSd.1,cB hbn hSd.2.1,cB hbn hSd.2.2.1,cB hbn hSd.2.2.2⟩
       have HBN:=hid (HBD.trans (hbn.mono HBD.size))
       have HB1N:=hid (HB1D.bel hbn)
       clear hbn hSd
       refine hK _ _ (.inr (.inr hSn)) ?_
       clear hK K
       iterate 11 (refine wpHJ_nx (v:=?_) 34 rfl rfl (by kernel_rfl) nE hSn ?_ ?_;rotate_left;(focus first | (refine Or.inr ⟨?_,?_⟩;(focus (simp [Region.wanted,yielded,undef];done));rfl) | (refine Or.inl ⟨?_,?_⟩;(focus (simp [Region.wanted,yielded,undef];done));intro w' hS';obtain ⟨s0,s1,s2,s3⟩:=hS';go_simp;try rfl));simp only [aP])
       refine oy 33 fun K hK=>?_
       go_simp
       refine hK _ _ (.inr (.inr hSn)) (dN ?_)
       clear hK K
       simp only [onlyN,Exit.then]
       clear hFa
       go_wp2_with fail
       go_meet
       case rel=>exact ⟨by rw [HD.out,HN.out];first | rfl | (simp [fieldB,HDV.out,HNV.out];done) | (simp [fieldB,HDV.out,HNV.out,HNE.out];done) | (simp [fieldB,HDV.out,HNV.out,HDE.out];done) | (simp [fieldB,HDV.out,HNV.out,named_ne HNV.out];done) | (simp [fieldB,HDV.out,HNV.out,named_ne HDV.out];done),HB1N.out,HBN.out⟩
      | false =>
       have HNV:=hid hnv;clear hnv
       have hFa:=fT
       refine rgN (fun W=>W.cell? ⟨w.heap.size,2,none⟩=some (.string ⟨([]:Bs).toArray⟩)/\W.cell? ⟨w.heap.size,3,none⟩=some (.string ⟨n.toArray⟩)/\W.cell? ⟨w.heap.size+1,0,none⟩=some (.bool false)/\W.cell? ⟨w.heap.size+1,1,none⟩=some (.bool true)) 34 (by kernel_rfl) ?_
       simp only [zP,Nat.reduceAdd]
       iterate 4 (refine nxW (v:=?_) 34 hS ?_ ?_;rotate_left;(focus intro w' hS';obtain ⟨s0,s1,s2,s3⟩:=hS';go_simp;try rfl);simp only [aP])
       refine oy 4 fun K hK=>?_
       go_simp
       (with_reducible refine (callsIn_wide.2 (HND.out _ (HE.out.step ((HBW.out.drew).mono HE.out.size)).e)).mono ?_)
       rintro e wd ⟨rfl,hbd⟩
       rw [HDV.out]
       have hSd:(fun W=>W.cell? ⟨w.heap.size,2,none⟩=some (.string ⟨([]:Bs).toArray⟩)/\W.cell? ⟨w.heap.size,3,none⟩=some (.string ⟨n.toArray⟩)/\W.cell? ⟨w.heap.size+1,0,none⟩=some (.bool false)/\W.cell? ⟨w.heap.size+1,1,none⟩=some (.bool true)) wd:=⟨cB hbd hS.1,cB hbd hS.2.1,cB hbd hS.2.2.1,cB hbd hS.2.2.2⟩
       have HBD:=hid (HBW.drew.trans (hbd.mono HBW.size))
       have HB1D:=hid ((show BxL 41 w.heap.size (inL x (.slice pa x.args.length ca)) wc.drew from HB1.out).bel hbd)
       clear hbd hS
       refine hK _ _ (.inr (.inr hSd)) ?_
       clear hK K
       iterate 16 (refine wpHJ_nx (v:=?_) 34 rfl rfl (by kernel_rfl) nE hSd ?_ ?_;rotate_left;(focus refine Or.inl ⟨by simp [Region.wanted,yielded,undef],?_⟩;intro w' hS';obtain ⟨s0,s1,s2,s3⟩:=hS';go_simp;try rfl);simp only [aP])
       refine oy 21 fun K hK=>?_
       rw [if_pos (by simp [Region.wanted,yielded,undef])]
       go_simp
       (with_reducible refine (callsIn_wide.2 (HNN.out _ (HE.out.step (HBD.out.mono HE.out.size)).e)).mono ?_)
       rintro e wn ⟨rfl,hbn⟩
       rw [HNV.out]
       have hSn:(fun W=>W.cell? ⟨w.heap.size,2,none⟩=some (.string ⟨([]:Bs).toArray⟩)/\W.cell? ⟨w.heap.size,3,none⟩=some (.string ⟨n.toArray⟩)/\W.cell? ⟨w.heap.size+1,0,none⟩=some (.bool false)/\W.cell? ⟨w.heap.size+1,1,none⟩=some (.bool true)) wn:=⟨cB hbn hSd.1,cB hbn hSd.2.1,cB hbn hSd.2.2.1,cB hbn hSd.2.2.2⟩
       have HBN:=hid (HBD.trans (hbn.mono HBD.size))
       have HB1N:=hid (HB1D.bel hbn)
       clear hbn hSd
       refine hK _ _ (.inr (.inr hSn)) ?_
       clear hK K
       iterate 11 (refine wpHJ_nx (v:=?_) 34 rfl rfl (by kernel_rfl) nE hSn ?_ ?_;rotate_left;(focus first | (refine Or.inr ⟨?_,?_⟩;(focus (simp [Region.wanted,yielded,undef];done));rfl) | (refine Or.inl ⟨?_,?_⟩;(focus (simp [Region.wanted,yielded,undef];done));intro w' hS';obtain ⟨s0,s1,s2,s3⟩:=hS';go_simp;try rfl));simp only [aP])
       refine oy 33 fun K hK=>?_
       go_simp
       refine hK _ _ (.inr (.inr hSn)) (dN ?_)
       clear hK K
       simp only [onlyN,Exit.then]
       clear hFa
       go_wp2_with fail
       go_meet
       case rel=>exact ⟨by rw [HD.out,HN.out];first | rfl | (simp [fieldB,HDV.out,HNV.out];done) | (simp [fieldB,HDV.out,HNV.out,HNE.out];done) | (simp [fieldB,HDV.out,HNV.out,HDE.out];done) | (simp [fieldB,HDV.out,HNV.out,named_ne HNV.out];done) | (simp [fieldB,HDV.out,HNV.out,named_ne HDV.out];done),HB1N.out,HBN.out⟩
     | false =>
      cases hnv:namedB n with
      | true =>
       have HNV:=hid hnv;clear hnv
       have hFa:=fT
       refine rgN (fun W=>W.cell? ⟨w.heap.size,2,none⟩=some (.string ⟨([]:Bs).toArray⟩)/\W.cell? ⟨w.heap.size,3,none⟩=some (.string ⟨n.toArray⟩)/\W.cell? ⟨w.heap.size+1,0,none⟩=some (.bool false)/\W.cell? ⟨w.heap.size+1,1,none⟩=some (.bool false)) 34 (by kernel_rfl) ?_
       simp only [zP,Nat.reduceAdd]
       iterate 4 (refine nxW (v:=?_) 34 hS ?_ ?_;rotate_left;(focus intro w' hS';obtain ⟨s0,s1,s2,s3⟩:=hS';go_simp;try rfl);simp only [aP])
       refine oy 4 fun K hK=>?_
       go_simp
       (with_reducible refine (callsIn_wide.2 (HND.out _ (HE.out.step ((HBW.out.drew).mono HE.out.size)).e)).mono ?_)
       rintro e wd ⟨rfl,hbd⟩
       rw [HDV.out]
       have hSd:(fun W=>W.cell? ⟨w.heap.size,2,none⟩=some (.string ⟨([]:Bs).toArray⟩)/\W.cell? ⟨w.heap.size,3,none⟩=some (.string ⟨n.toArray⟩)/\W.cell? ⟨w.heap.size+1,0,none⟩=some (.bool false)/\W.cell? ⟨w.heap.size+1,1,none⟩=some (.bool false)) wd:=⟨cB hbd hS.1,cB hbd hS.2.1,cB hbd hS.2.2.1,cB hbd hS.2.2.2⟩
       have HBD:=hid (HBW.drew.trans (hbd.mono HBW.size))
       have HB1D:=hid ((show BxL 41 w.heap.size (inL x (.slice pa x.args.length ca)) wc.drew from HB1.out).bel hbd)
       clear hbd hS
       refine hK _ _ (.inr (.inr hSd)) ?_
       clear hK K
       iterate 16 (refine wpHJ_nx (v:=?_) 34 rfl rfl (by kernel_rfl) nE hSd ?_ ?_;rotate_left;(focus refine Or.inl ⟨by simp [Region.wanted,yielded,undef],?_⟩;intro w' hS';obtain ⟨s0,s1,s2,s3⟩:=hS';go_simp;try rfl);simp only [aP])
       refine oy 21 fun K hK=>?_
       rw [if_pos (by simp [Region.wanted,yielded,undef])]
       go_simp
       (with_reducible refine (callsIn_wide.2 (HNN.out _ (HE.out.step (HBD.out.mono HE.out.size)).e)).mono ?_)
       rintro e wn ⟨rfl,hbn⟩
       rw [HNV.out]
       have hSn:(fun W=>W.cell? ⟨w.heap.size,2,none⟩=some (.string ⟨([]:Bs).toArray⟩)/\W.cell? ⟨w.heap.size,3,none⟩=some (.string ⟨n.toArray⟩)/\W.cell? ⟨w.heap.size+1,0,none⟩=some (.bool false)/\W.cell? ⟨w.heap.size+1,1,none⟩=some (.bool false)) wn:=⟨cB hbn hSd.1,cB hbn hSd.2.1,cB hbn hSd.2.2.1,cB hbn hSd.2.2.2⟩
       have HBN:=hid (HBD.trans (hbn.mono HBD.size))
       have HB1N:=hid (HB1D.bel hbn)
       clear hbn hSd
       refine hK _ _ (.inr (.inr hSn)) ?_
       clear hK K
       iterate 11 (refine wpHJ_nx (v:=?_) 34 rfl rfl (by kernel_rfl) nE hSn ?_ ?_;rotate_left;(focus first | (refine Or.inr ⟨?_,?_⟩;(focus (simp [Region.wanted,yielded,undef];done));rfl) | (refine Or.inl ⟨?_,?_⟩;(focus (simp [Region.wanted,yielded,undef];done));intro w' hS';obtain ⟨s0,s1,s2,s3⟩:=hS';go_simp;try rfl));simp only [aP])
       refine oy 33 fun K hK=>?_
       go_simp
       refine hK _ _ (.inr (.inr hSn)) (dN ?_)
       clear hK K
       simp only [onlyN,Exit.then]
       clear hFa
       go_wp2_with fail
       go_meet
       case rel=>exact ⟨by rw [HD.out,HN.out];first | rfl | (simp [fieldB,HDV.out,HNV.out];done) | (simp [fieldB,HDV.out,HNV.out,HNE.out];done) | (simp [fieldB,HDV.out,HNV.out,HDE.out];done) | (simp [fieldB,HDV.out,HNV.out,named_ne HNV.out];done) | (simp [fieldB,HDV.out,HNV.out,named_ne HDV.out];done),HB1N.out,HBN.out⟩
      | false =>
       have HNV:=hid hnv;clear hnv
       by_cases hne:n=[]
       ·subst hne
        have hFa:=fT
        refine rgN (fun W=>W.cell? ⟨w.heap.size,2,none⟩=some (.string ⟨([]:Bs).toArray⟩)/\W.cell? ⟨w.heap.size,3,none⟩=some (.string ⟨([]:Bs).toArray⟩)/\W.cell? ⟨w.heap.size+1,0,none⟩=some (.bool false)/\W.cell? ⟨w.heap.size+1,1,none⟩=some (.bool false)) 34 (by kernel_rfl) ?_
        simp only [zP,Nat.reduceAdd]
        iterate 4 (refine nxW (v:=?_) 34 hS ?_ ?_;rotate_left;(focus intro w' hS';obtain ⟨s0,s1,s2,s3⟩:=hS';go_simp;try rfl);simp only [aP])
        refine oy 4 fun K hK=>?_
        go_simp
        (with_reducible refine (callsIn_wide.2 (HND.out _ (HE.out.step ((HBW.out.drew).mono HE.out.size)).e)).mono ?_)
        rintro e wd ⟨rfl,hbd⟩
        rw [HDV.out]
        have hSd:(fun W=>W.cell? ⟨w.heap.size,2,none⟩=some (.string ⟨([]:Bs).toArray⟩)/\W.cell? ⟨w.heap.size,3,none⟩=some (.string ⟨([]:Bs).toArray⟩)/\W.cell? ⟨w.heap.size+1,0,none⟩=some (.bool false)/\W.cell? ⟨w.heap.size+1,1,none⟩=some (.bool false)) wd:=⟨cB hbd hS.1,cB hbd hS.2.1,cB hbd hS.2.2.1,cB hbd hS.2.2.2⟩
        have HBD:=hid (HBW.drew.trans (hbd.mono HBW.size))
        have HB1D:=hid ((show BxL 41 w.heap.size (inL x (.slice pa x.args.length ca)) wc.drew from HB1.out).bel hbd)
        clear hbd hS
        refine hK _ _ (.inr (.inr hSd)) ?_
        clear hK K
        iterate 16 (refine wpHJ_nx (v:=?_) 34 rfl rfl (by kernel_rfl) nE hSd ?_ ?_;rotate_left;(focus refine Or.inl ⟨by simp [Region.wanted,yielded,undef],?_⟩;intro w' hS';obtain ⟨s0,s1,s2,s3⟩:=hS';go_simp;try rfl);simp only [aP])
        refine oy 21 fun K hK=>?_
        rw [if_pos (by simp [Region.wanted,yielded,undef])]
        go_simp
        (with_reducible refine (callsIn_wide.2 (HNN.out _ (HE.out.step (HBD.out.mono HE.out.size)).e)).mono ?_)
        rintro e wn ⟨rfl,hbn⟩
        rw [HNV.out]
        have hSn:(fun W=>W.cell? ⟨w.heap.size,2,none⟩=some (.string ⟨([]:Bs).toArray⟩)/\W.cell? ⟨w.heap.size,3,none⟩=some (.string ⟨([]:Bs).toArray⟩)/\W.cell? ⟨w.heap.size+1,0,none⟩=some (.bool false)/\W.cell? ⟨w.heap.size+1,1,none⟩=some (.bool false)) wn:=⟨cB hbn hSd.1,cB hbn hSd.2.1,cB hbn hSd.2.2.1,cB hbn hSd.2.2.2⟩
        have HBN:=hid (HBD.trans (hbn.mono HBD.size))
        have HB1N:=hid (HB1D.bel hbn)
        clear hbn hSd
        refine hK _ _ (.inr (.inr hSn)) ?_
        clear hK K
        iterate 11 (refine wpHJ_nx (v:=?_) 34 rfl rfl (by kernel_rfl) nE hSn ?_ ?_;rotate_left;(focus refine Or.inl ⟨by simp [Region.wanted,yielded,undef],?_⟩;intro w' hS';obtain ⟨s0,s1,s2,s3⟩:=hS';go_simp;try rfl);simp only [aP])
        refine oy 33 fun K hK=>?_
        go_simp
        refine hK _ _ (.inr (.inr hSn)) (dN ?_)
        clear hK K
        simp only [onlyN,Exit.then]
        clear hFa
        go_wp2_with fail
        go_meet
        case rel=>exact ⟨by rw [HD.out,HN.out];first | rfl | (simp [fieldB,HDV.out,HNV.out];done) | (simp [fieldB,HDV.out,HNV.out,HNE.out];done) | (simp [fieldB,HDV.out,HNV.out,HDE.out];done) | (simp [fieldB,HDV.out,HNV.out,named_ne HNV.out];done) | (simp [fieldB,HDV.out,HNV.out,named_ne HDV.out];done),HB1N.out,HBN.out⟩
       ·have HNE:=hid hne
        have e1:(n == [])=false:=beq_eq_false_iff_ne.2 hne
        have e2:n.isEmpty=false:=by cases n with | nil=>exact absurd rfl hne | cons a r=>rfl
        have e3:(n != [])=true:=by rw [bne,e1];rfl
        have hFa:=fT
        refine rgN (fun W=>W.cell? ⟨w.heap.size,2,none⟩=some (.string ⟨([]:Bs).toArray⟩)/\W.cell? ⟨w.heap.size,3,none⟩=some (.string ⟨n.toArray⟩)/\W.cell? ⟨w.heap.size+1,0,none⟩=some (.bool false)/\W.cell? ⟨w.heap.size+1,1,none⟩=some (.bool false)) 34 (by kernel_rfl) ?_
        simp only [zP,Nat.reduceAdd]
        iterate 4 (refine nxW (v:=?_) 34 hS ?_ ?_;rotate_left;(focus intro w' hS';obtain ⟨s0,s1,s2,s3⟩:=hS';go_simp;try rfl);simp only [aP])
        refine oy 4 fun K hK=>?_
        go_simp
        (with_reducible refine (callsIn_wide.2 (HND.out _ (HE.out.step ((HBW.out.drew).mono HE.out.size)).e)).mono ?_)
        rintro e wd ⟨rfl,hbd⟩
        rw [HDV.out]
        have hSd:(fun W=>W.cell? ⟨w.heap.size,2,none⟩=some (.string ⟨([]:Bs).toArray⟩)/\W.cell? ⟨w.heap.size,3,none⟩=some (.string ⟨n.toArray⟩)/\W.cell? ⟨w.heap.size+1,0,none⟩=some (.bool false)/\W.cell? ⟨w.heap.size+1,1,none⟩=some (.bool false)) wd:=⟨cB hbd hS.1,cB hbd hS.2.1,cB hbd hS.2.2.1,cB hbd hS.2.2.2⟩
        have HBD:=hid (HBW.drew.trans (hbd.mono HBW.size))
        have HB1D:=hid ((show BxL 41 w.heap.size (inL x (.slice pa x.args.length ca)) wc.drew from HB1.out).bel hbd)
        clear hbd hS
        refine hK _ _ (.inr (.inr hSd)) ?_
        clear hK K
        iterate 16 (refine wpHJ_nx (v:=?_) 34 rfl rfl (by kernel_rfl) nE hSd ?_ ?_;rotate_left;(focus refine Or.inl ⟨by simp [Region.wanted,yielded,undef],?_⟩;intro w' hS';obtain ⟨s0,s1,s2,s3⟩:=hS';go_simp;try rfl);simp only [aP])
        refine oy 21 fun K hK=>?_
        rw [if_pos (by simp [Region.wanted,yielded,undef])]
        go_simp
        (with_reducible refine (callsIn_wide.2 (HNN.out _ (HE.out.step (HBD.out.mono HE.out.size)).e)).mono ?_)
        rintro e wn ⟨rfl,hbn⟩
        rw [HNV.out]
        have hSn:(fun W=>W.cell? ⟨w.heap.size,2,none⟩=some (.string ⟨([]:Bs).toArray⟩)/\W.cell? ⟨w.heap.size,3,none⟩=some (.string ⟨n.toArray⟩)/\W.cell? ⟨w.heap.size+1,0,none⟩=some (.bool false)/\W.cell? ⟨w.heap.size+1,1,none⟩=some (.bool false)) wn:=⟨cB hbn hSd.1,cB hbn hSd.2.1,cB hbn hSd.2.2.1,cB hbn hSd.2.2.2⟩
        have HBN:=hid (HBD.trans (hbn.mono HBD.size))
        have HB1N:=hid (HB1D.bel hbn)
        clear hbn hSd
        refine hK _ _ (.inr (.inr hSn)) ?_
        clear hK K
        iterate 11 (refine wpHJ_nx (v:=?_) 34 rfl rfl (by kernel_rfl) nE hSn ?_ ?_;rotate_left;(focus refine Or.inl ⟨by simp [Region.wanted,yielded,undef],?_⟩;intro w' hS';obtain ⟨s0,s1,s2,s3⟩:=hS';go_simp;try rfl);simp only [aP])
        refine oy 33 fun K hK=>?_
        go_simp
        refine hK _ _ (.inr (.inr hSn)) (dN ?_)
        clear hK K
        simp only [onlyN,Exit.then]
        clear hFa
        go_wp2_with fail
        go_meet
        case rel=>exact ⟨by rw [HD.out,HN.out];first | rfl | (simp [fieldB,HDV.out,HNV.out];done) | (simp [fieldB,HDV.out,HNV.out,HNE.out];done) | (simp [fieldB,HDV.out,HNV.out,HDE.out];done) | (simp [fieldB,HDV.out,HNV.out,named_ne HNV.out];done) | (simp [fieldB,HDV.out,HNV.out,named_ne HDV.out];done),HB1N.out,HBN.out⟩
    ·have HDE:=hid hde
     have d1:(d == [])=false:=beq_eq_false_iff_ne.2 hde
     have d2:d.isEmpty=false:=by cases d with | nil=>exact absurd rfl hde | cons a r=>rfl
     have d3:(d != [])=true:=by rw [bne,d1];rfl
     have HNV:=hid (rfl:namedB n=namedB n)
     have hFa:=fT
     refine rgN (fun W=>W.cell? ⟨w.heap.size,2,none⟩=some (.string ⟨d.toArray⟩)/\W.cell? ⟨w.heap.size,3,none⟩=some (.string ⟨n.toArray⟩)/\W.cell? ⟨w.heap.size+1,0,none⟩=some (.bool false)/\W.cell? ⟨w.heap.size+1,1,none⟩=some (.bool fn)) 34 (by kernel_rfl) ?_
     simp only [zP,Nat.reduceAdd]
     iterate 4 (refine nxW (v:=?_) 34 hS ?_ ?_;rotate_left;(focus intro w' hS';obtain ⟨s0,s1,s2,s3⟩:=hS';go_simp;try rfl);simp only [aP])
     refine oy 4 fun K hK=>?_
     go_simp
     (with_reducible refine (callsIn_wide.2 (HND.out _ (HE.out.step ((HBW.out.drew).mono HE.out.size)).e)).mono ?_)
     rintro e wd ⟨rfl,hbd⟩
     rw [HDV.out]
     have hSd:(fun W=>W.cell? ⟨w.heap.size,2,none⟩=some (.string ⟨d.toArray⟩)/\W.cell? ⟨w.heap.size,3,none⟩=some (.string ⟨n.toArray⟩)/\W.cell? ⟨w.heap.size+1,0,none⟩=some (.bool false)/\W.cell? ⟨w.heap.size+1,1,none⟩=some (.bool fn)) wd:=⟨cB hbd hS.1,cB hbd hS.2.1,cB hbd hS.2.2.1,cB hbd hS.2.2.2⟩
     have HBD:=hid (HBW.drew.trans (hbd.mono HBW.size))
     have HB1D:=hid ((show BxL 41 w.heap.size (inL x (.slice pa x.args.length ca)) wc.drew from HB1.out).bel hbd)
     clear hbd hS
     refine hK _ _ (.inr (.inr hSd)) ?_
     clear hK K
     iterate 16 (refine wpHJ_nx (v:=?_) 34 rfl rfl (by kernel_rfl) nE hSd ?_ ?_;rotate_left;(focus first | (refine Or.inr ⟨?_,?_⟩;(focus (simp [Region.wanted,yielded,undef];done));rfl) | (refine Or.inl ⟨?_,?_⟩;(focus (simp [Region.wanted,yielded,undef];done));intro w' hS';obtain ⟨s0,s1,s2,s3⟩:=hS';go_simp;try rfl));simp only [aP])
     refine oy 21 fun K hK=>?_
     rw [if_neg (by simp [Region.wanted,yielded,undef])]
     go_simp
     refine hK _ _ (.inr (.inr hSd)) ?_
     clear hK K
     iterate 11 (refine wpHJ_nx (v:=?_) 34 rfl rfl (by kernel_rfl) nE hSd ?_ ?_;rotate_left;(focus first | (refine Or.inr ⟨?_,?_⟩;(focus (simp [Region.wanted,yielded,undef];done));rfl) | (refine Or.inl ⟨?_,?_⟩;(focus (simp [Region.wanted,yielded,undef];done));intro w' hS';obtain ⟨s0,s1,s2,s3⟩:=hS';go_simp;try rfl));simp only [aP])
     refine oy 33 fun K hK=>?_
     go_simp
     refine hK _ _ (.inr (.inr hSd)) (dN ?_)
     clear hK K
     simp only [onlyN,Exit.then]
     clear hFa
     go_wp2_with fail
     go_meet
     case rel=>exact ⟨by rw [HD.out,HN.out];first | rfl | (simp [fieldB,HDV.out,HNV.out];done) | (simp [fieldB,HDV.out,HNV.out,HNE.out];done) | (simp [fieldB,HDV.out,HNV.out,HDE.out];done) | (simp [fieldB,HDV.out,HNV.out,named_ne HNV.out];done) | (simp [fieldB,HDV.out,HNV.out,named_ne HDV.out];done),HB1D.out,HBD.out⟩
 case rest =>
 obtain ⟨rfl,hb1',hbw'⟩:=hcut
 clear HB1 HB3 HBW
 have HB1:=hid hb1';have HBW:=hid hbw'
 have hargs:wc.cell? ⟨w.heap.size,4,none⟩=some (.slice pa x.args.length ca):=HB1.at 4 rfl
 clear hb1' hbw'
 have HMF2:=hid (show formB x=((fieldB fd x.dst && fieldB fn x.nm) && ((decide (wantM x<0) || decide ((x.args.length:Int)=wantM x)) && decide (x.args.length<=32)) && x.args.all argB) from by rw [HMF.out,HOKT.out,Bool.true_and])
 obtain ⟨fb,hfb⟩:∃ b,(fieldB fd x.dst && fieldB fn x.nm)=b:=⟨_,rfl⟩
 rw [hfb] at HMF2 ⊢
 clear hfb HMF HOKT HOK HWM
 cases fb with
 | false =>
  have HM:=hid (show formB x=false from by rw [HMF2.out];rfl)
  simp only [Bool.not_false]
  go_wp2
  go_ret
  exact ⟨by rw [HM.out];rfl,HBW.out⟩
 | true =>
 simp only [Bool.not_true]
 obtain ⟨want,hwant⟩:∃ z,wantM x=z:=⟨_,rfl⟩
 obtain ⟨L,hL⟩:∃ z,x.args.length=z:=⟨_,rfl⟩
 rw [hwant,hL] at HMF2
 rw [hL] at hargs HA HB1
 rw [hwant]
 simp only [hL]
 go_upto_region 13 with fail
 go_cut [85] (fun s85 wx=>s85=.bool (!((decide (want<0) || decide ((L:Int)=want)) && decide (L<=32)))/\wx=wc)
 case first =>
  by_cases h1:want<0
  ·have t1:decide (0<=want)=false:=by simp;omega
   have G1:=hid (decide_eq_true h1)
   by_cases h2:L<=32
   ·have t2:decide (32<(L:Int))=false:=by simp;omega
    have G2:=hid (decide_eq_true h2)
    clear h1 h2
    go_wp2_with fail
    go_meet
    case rel=>exact ⟨by rw [G1.out,G2.out];rfl,rfl⟩
   ·have t2:decide (32<(L:Int))=true:=by simp;omega
    have G2:=hid (decide_eq_false h2)
    clear h1 h2
    go_wp2_with fail
    go_meet
    case rel=>exact ⟨by rw [G1.out,G2.out];rfl,rfl⟩
  ·have t1:decide (0<=want)=true:=by simp;omega
   have G1:=hid (decide_eq_false h1)
   clear h1
   by_cases h3:(L:Int)=want
   ·have t3:((L:Int) != want)=false:=by simp [h3]
    have G3:=hid (decide_eq_true h3)
    clear h3
    by_cases h2:L<=32
    ·have t2:decide (32<(L:Int))=false:=by simp;omega
     have G2:=hid (decide_eq_true h2)
     clear h2
     go_wp2_with fail
     go_meet
     case rel=>exact ⟨by rw [G1.out,G2.out,G3.out];rfl,rfl⟩
    ·have t2:decide (32<(L:Int))=true:=by simp;omega
     have G2:=hid (decide_eq_false h2)
     clear h2
     go_wp2_with fail
     go_meet
     case rel=>exact ⟨by rw [G1.out,G2.out,G3.out];rfl,rfl⟩
   ·have t3:((L:Int) != want)=true:=by simp [h3]
    have G3:=hid (decide_eq_false h3)
    clear h3
    go_wp2_with fail
    go_meet
    case rel=>exact ⟨by rw [G1.out,G3.out];rfl,rfl⟩
 case rest =>
 obtain ⟨rfl,rfl⟩:=hcut
 obtain ⟨lb,hlb⟩:∃ b,((decide (want<0) || decide ((L:Int)=want)) && decide (L<=32))=b:=⟨_,rfl⟩
 rw [hlb] at HMF2 ⊢
 clear hlb
 cases lb with
 | false =>
  have HM:=hid (show formB x=false from by rw [HMF2.out];rfl)
  simp only [Bool.not_false]
  go_wp2
  go_ret
  exact ⟨by rw [HM.out];rfl,HBW.out⟩
 | true =>
 simp only [Bool.not_true]
 have HLB:=hid (show L<=140737488355328 from by have h1:=HA.len;rw [<- hL];exact h1)
 have HL:=hid hL
 clear hL
 have HM:=hid (show formB x=x.args.all argB from by rw [HMF2.out];rfl)
 clear HMF2
 go_wp2_with fail
 clear hargs
 go_loopw [2,89] (fun v2 iv wr=>∃ k:Nat,k<=L/\iv=.int .i64 (k:Int)/\(x.args.take k).all argB=true/\Below w.heap.size w wr) (fun _ iv _=>L - (intOf iv).toNat)
 case atStart=>exact ⟨0,Nat.zero_le _,rfl,rfl,HBW.out⟩
 case round =>
  obtain ⟨k,hk,rfl,hall,hbr⟩:=hrel
  by_cases hlt:k<L
  ·have g2:decide ((k:Int)<(L:Int))=true:=by simp;omega
   have hl0:0<x.args.length:=by rw [HL.out];omega
   have hkl:k<x.args.length:=by rw [HL.out];exact hlt
   obtain ⟨b,off,rfl,hR,hcells⟩:=ag_at HA.out hl0
   obtain ⟨c0,c1⟩:=hcells k hkl
   have hsn:(x.args.take (k+1)).all argB=((x.args.take k).all argB && argB x.args[k]):=by
    rw [List.take_succ_eq_append_getElem hkl,List.all_append];simp
   have hno:argB x.args[k]=false->x.args.all argB=false:=fun h=>by
    rw [List.all_eq_false];exact ⟨_,List.getElem_mem hkl,by rw [h];decide⟩
   rw [hall,Bool.true_and] at hsn
   have HSN:=hid hsn;have HNO:=hid hno
   have d0:wr.cell? ⟨b,off+k*2,none⟩=some (.string ⟨(x.args[k]).nm.toArray⟩):=(hbr.cell (p:=⟨_,_,none⟩) hR).trans c0
   have d1:wr.cell? ⟨b,off+k*2+1,none⟩=some (.int .u64 ((x.args[k]).num:Int)):=(hbr.cell (p:=⟨_,_,none⟩) hR).trans c1
   have HBR:=hid hbr
   have hEr:=(HE.step (hbr.mono HE.size))
   have HER:=hid hEr
   have hbl:¬ b=wr.heap.size:=by have:=hbr.size;omega
   have HLT:=hid hlt
   clear hsn hno hall hcells c0 c1 hbr hl0 hEr hR
   obtain ⟨a,hag⟩:∃ a,x.args[k]=a:=⟨_,rfl⟩
   rw [hag] at d0 d1 HSN HNO
   clear hag hkl
   obtain ⟨s,n⟩:=a
   simp only at d0 d1
   by_cases hs:s=[]
   ·subst hs
    have HNX:=hid (show (x.args.take (k+1)).all argB=true from HSN.trans (by simp [argB]))
    clear hlt
    go_wp2_with fail
    go_roundw
    case rel=>exact ⟨k+1,HLT.out,by rw [wrap_next HLT.out HLB.out],HNX.out,by first | exact HBR.alloc HBR.size _ | exact HBR.out⟩
    case measure=>exact meas_next HLT.out HLB.out
   ·have e1:(s == [])=false:=beq_eq_false_iff_ne.2 hs
    have e2:s.isEmpty=false:=by cases s with | nil=>exact absurd rfl hs | cons a r=>rfl
    have e3:(s != [])=true:=by rw [bne,e1];rfl
    have HAB:=hid (show argB ⟨s,n⟩=(namedB s && decide (n=0)) from by simp [argB,hs])
    have HNM:=hid (fun W hW=>named_any s W hW)
    clear hs
    cases hnb:namedB s with
    | false =>
     rw [hnb] at HAB
     have HF:=hid (HNO.out (by rw [HAB.out];rfl))
     have HNB:=hid hnb
     clear hlt hnb
     go_wp2_with (go_at_call 155;with_reducible refine (HNM.out _ (HER.out.step ((Below.refl _ _).alloc HER.out.size _)).e).mono ?_;rw [HNB.out];rintro e wx ⟨rfl,hbx⟩)
     go_ret
     exact ⟨by rw [HM.out,HF.out];rfl,(HBR.alloc HBR.size _).trans (hbx.mono (by rw [sA];have:=HBR.size;omega))⟩
    | true =>
     rw [hnb] at HAB
     have HNB:=hid hnb
     clear hnb
     by_cases hn0:n=0
     ·subst hn0
      have HNX:=hid (show (x.args.take (k+1)).all argB=true from HSN.trans (by rw [HAB.out];rfl))
      clear hlt
      go_wp2_with (go_at_call 155;with_reducible refine (HNM.out _ (HER.out.step ((Below.refl _ _).alloc HER.out.size _)).e).mono ?_;rw [HNB.out];rintro e wx ⟨rfl,hbx⟩;have q0:=two_after hbx;have HBX:=hid ((HBR.out.alloc HBR.out.size _).trans (hbx.mono (by rw [sA];have:=HBR.out.size;omega)));clear hbx)
      go_roundw
      case rel=>exact ⟨k+1,HLT.out,by rw [wrap_next HLT.out HLB.out],HNX.out,HBX.out⟩
      case measure=>exact meas_next HLT.out HLB.out
     ·have t5:((n:Int) != 0)=true:=by simp;omega
      have HF:=hid (HNO.out (by rw [HAB.out,decide_eq_false hn0];rfl))
      clear hlt hn0
      go_wp2_with (go_at_call 155;with_reducible refine (HNM.out _ (HER.out.step ((Below.refl _ _).alloc HER.out.size _)).e).mono ?_;rw [HNB.out];rintro e wx ⟨rfl,hbx⟩;have q0:=two_after hbx;have HBX:=hid ((HBR.out.alloc HBR.out.size _).trans (hbx.mono (by rw [sA];have:=HBR.out.size;omega)));clear hbx)
      go_ret
      exact ⟨by rw [HM.out,HF.out];rfl,HBX.out⟩
  ·obtain rfl:k=L:=by omega
   have g2:decide ((k:Int)<(k:Int))=false:=by simp
   have HALL:=hid (show x.args.all argB=true from by rw [<- hall,List.take_of_length_le (by rw [HL.out];exact Nat.le_refl _)])
   have HBR:=hid hbr
   clear hall hbr hlt
   go_wp2_with fail
   go_ret
   exact ⟨by rw [HM.out,HALL.out];rfl,HBR.out⟩
end Go.Proofs.YtoofbgoeipijcaaGreatDoor
