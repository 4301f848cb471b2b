/-
 A part.
-/
import Derived.Test.YtoofbgoeipijcaaGreatDoorVB46
namespace Go.Proofs.YtoofbgoeipijcaaGreatDoor
set_option linter.all false
open Go.RowKit Go.Shelf
attribute [local go_sem] Oper.semAt_some
theorem below_drewNES (w:World) (n:Nat):Below w.heap.size w (w.drewN n):=⟨rfl,rfl,rfl,Nat.le_refl _,fun _ _=>rfl⟩
theorem eqi_sS (k o:Nat) (d n:Bs) (a b:List Ag) (p p2:Int × Int) (pa pb:Option Addr) (ca cb:Nat) (w:World) (ha:SlG kAg (·<w.heap.size) w (.slice pa a.length ca) a) (hb:SlG kAg (·<w.heap.size) w (.slice pb b.length cb) b) :
  Calls Tryz.prog 75 #[.agg #[.int .u8 (k:Int),.int .u8 (o:Int),.string ⟨d.toArray⟩,.string ⟨n.toArray⟩,.slice pa a.length ca,.int .i64 p.1,.int .i64 p.2],.agg #[.int .u8 (k:Int),.int .u8 (o:Int),.string ⟨d.toArray⟩,.string ⟨n.toArray⟩,.slice pb b.length cb,.int .i64 p2.1,.int .i64 p2.2]] w fun e w'=>e=.returned (.bool (decide (a=b)))/\Below w.heap.size w w':=by
 have HA:=hid ha;have HB:=hid hb
 clear ha hb
 obtain ⟨r,hr⟩:∃ r,decide (a=b)=r:=⟨_,rfl⟩
 have HR:=hid hr
 rw [hr]
 clear hr
 go_enter Tryz.func75,Tryz.ntmps75
 go_upto_region 1 with fail
 obtain ⟨w2,hw2⟩:∃ W,(w.alloc (.cells #[.int .u8 (k:Int),.int .u8 (o:Int),.string ⟨d.toArray⟩,.string ⟨n.toArray⟩,.slice pa a.length ca,.int .i64 p.1,.int .i64 p.2] 41)).alloc (.cells #[.int .u8 (k:Int),.int .u8 (o:Int),.string ⟨d.toArray⟩,.string ⟨n.toArray⟩,.slice pb b.length cb,.int .i64 p2.1,.int .i64 p2.2] 41)=W:=⟨_,rfl⟩
 have HB2:=hid (show Below w.heap.size w w2 from by rw [<- hw2];exact (bA).alloc (by rw [sA];omega) _)
 have HX:=hid (show BxL 41 w.heap.size [.int .u8 (k:Int),.int .u8 (o:Int),.string ⟨d.toArray⟩,.string ⟨n.toArray⟩,.slice pa a.length ca,.int .i64 p.1,.int .i64 p.2] w2 from by rw [<- hw2];exact (BxL.new _ _ _).al _)
 have HY:=hid (show BxL 41 (w.heap.size+1) [.int .u8 (k:Int),.int .u8 (o:Int),.string ⟨d.toArray⟩,.string ⟨n.toArray⟩,.slice pb b.length cb,.int .i64 p2.1,.int .i64 p2.2] w2 from by rw [<- hw2];have h9:=BxL.new 41 (w.alloc (.cells #[.int .u8 (k:Int),.int .u8 (o:Int),.string ⟨d.toArray⟩,.string ⟨n.toArray⟩,.slice pa a.length ca,.int .i64 p.1,.int .i64 p.2] 41)) [.int .u8 (k:Int),.int .u8 (o:Int),.string ⟨d.toArray⟩,.string ⟨n.toArray⟩,.slice pb b.length cb,.int .i64 p2.1,.int .i64 p2.2];rw [sA] at h9;exact h9)
 rw [hw2]
 clear hw2
 have xa0:∀ m,(w2.drewN m).cell? ⟨w.heap.size,0,none⟩=some (.int .u8 (k:Int)):=fun m=>HX.at 0 rfl
 have xb0:w2.cell? ⟨w.heap.size,0,none⟩=some (.int .u8 (k:Int)):=HX.at 0 rfl
 have xa1:∀ m,(w2.drewN m).cell? ⟨w.heap.size,1,none⟩=some (.int .u8 (o:Int)):=fun m=>HX.at 1 rfl
 have xb1:w2.cell? ⟨w.heap.size,1,none⟩=some (.int .u8 (o:Int)):=HX.at 1 rfl
 have xa2:∀ m,(w2.drewN m).cell? ⟨w.heap.size,2,none⟩=some (.string ⟨d.toArray⟩):=fun m=>HX.at 2 rfl
 have xb2:w2.cell? ⟨w.heap.size,2,none⟩=some (.string ⟨d.toArray⟩):=HX.at 2 rfl
 have xa3:∀ m,(w2.drewN m).cell? ⟨w.heap.size,3,none⟩=some (.string ⟨n.toArray⟩):=fun m=>HX.at 3 rfl
 have xb3:w2.cell? ⟨w.heap.size,3,none⟩=some (.string ⟨n.toArray⟩):=HX.at 3 rfl
 have xa4:∀ m,(w2.drewN m).cell? ⟨w.heap.size,4,none⟩=some (.slice pa a.length ca):=fun m=>HX.at 4 rfl
 have xb4:w2.cell? ⟨w.heap.size,4,none⟩=some (.slice pa a.length ca):=HX.at 4 rfl
 have xa5:∀ m,(w2.drewN m).cell? ⟨w.heap.size,5,none⟩=some (.int .i64 p.1):=fun m=>HX.at 5 rfl
 have xb5:w2.cell? ⟨w.heap.size,5,none⟩=some (.int .i64 p.1):=HX.at 5 rfl
 have xa6:∀ m,(w2.drewN m).cell? ⟨w.heap.size,6,none⟩=some (.int .i64 p.2):=fun m=>HX.at 6 rfl
 have xb6:w2.cell? ⟨w.heap.size,6,none⟩=some (.int .i64 p.2):=HX.at 6 rfl
 have ya0:∀ m,(w2.drewN m).cell? ⟨w.heap.size+1,0,none⟩=some (.int .u8 (k:Int)):=fun m=>HY.at 0 rfl
 have yb0:w2.cell? ⟨w.heap.size+1,0,none⟩=some (.int .u8 (k:Int)):=HY.at 0 rfl
 have ya1:∀ m,(w2.drewN m).cell? ⟨w.heap.size+1,1,none⟩=some (.int .u8 (o:Int)):=fun m=>HY.at 1 rfl
 have yb1:w2.cell? ⟨w.heap.size+1,1,none⟩=some (.int .u8 (o:Int)):=HY.at 1 rfl
 have ya2:∀ m,(w2.drewN m).cell? ⟨w.heap.size+1,2,none⟩=some (.string ⟨d.toArray⟩):=fun m=>HY.at 2 rfl
 have yb2:w2.cell? ⟨w.heap.size+1,2,none⟩=some (.string ⟨d.toArray⟩):=HY.at 2 rfl
 have ya3:∀ m,(w2.drewN m).cell? ⟨w.heap.size+1,3,none⟩=some (.string ⟨n.toArray⟩):=fun m=>HY.at 3 rfl
 have yb3:w2.cell? ⟨w.heap.size+1,3,none⟩=some (.string ⟨n.toArray⟩):=HY.at 3 rfl
 have ya4:∀ m,(w2.drewN m).cell? ⟨w.heap.size+1,4,none⟩=some (.slice pb b.length cb):=fun m=>HY.at 4 rfl
 have yb4:w2.cell? ⟨w.heap.size+1,4,none⟩=some (.slice pb b.length cb):=HY.at 4 rfl
 have ya5:∀ m,(w2.drewN m).cell? ⟨w.heap.size+1,5,none⟩=some (.int .i64 p2.1):=fun m=>HY.at 5 rfl
 have yb5:w2.cell? ⟨w.heap.size+1,5,none⟩=some (.int .i64 p2.1):=HY.at 5 rfl
 have ya6:∀ m,(w2.drewN m).cell? ⟨w.heap.size+1,6,none⟩=some (.int .i64 p2.2):=fun m=>HY.at 6 rfl
 have yb6:w2.cell? ⟨w.heap.size+1,6,none⟩=some (.int .i64 p2.2):=HY.at 6 rfl
 go_wp2_with (go_at_call 116;(refine (eqargs_any a b _ _ _ _ _ (HA.out.below HB2.out) (HB.out.below HB2.out)).mono ?_);rintro e w3 ⟨rfl,n3,rfl⟩;rw [HR.out])
 go_ret
 exact ⟨rfl,HB2.trans ((below_drewNES w2 n3).mono HB2.size)⟩
theorem bareI_eqS (k o:Nat) (d n:Bs) (a b:List Ag) (p p2:Int × Int):decide (bareI ⟨k,o,d,n,a,p⟩=bareI ⟨k,o,d,n,b,p2⟩)=decide (a=b):=by
 unfold bareI;simp
theorem peqinstr_same (x y:In) (va vb:Value) (w:World) (ha:SlG kAg (·<w.heap.size) w va x.args) (hb:SlG kAg (·<w.heap.size) w vb y.args) (hxy:bareI x=bareI y) :
  Calls Tryz.prog 75 #[.agg #[.int .u8 (x.kind:Int),.int .u8 (x.op:Int),.string ⟨x.dst.toArray⟩,.string ⟨x.nm.toArray⟩,va,.int .i64 x.pos.1,.int .i64 x.pos.2],.agg #[.int .u8 (y.kind:Int),.int .u8 (y.op:Int),.string ⟨y.dst.toArray⟩,.string ⟨y.nm.toArray⟩,vb,.int .i64 y.pos.1,.int .i64 y.pos.2]] w fun e w'=>e=.returned (.bool (decide (bareI x=bareI y)))/\Below w.heap.size w w':=by
 obtain ⟨pa,ca,rfl⟩:=ha.slc
 obtain ⟨pb,cb,rfl⟩:=hb.slc
 obtain ⟨k,op,d,n,a,p⟩:=x
 obtain ⟨k2,op2,d2,n2,b,p2⟩:=y
 obtain rfl:k=k2:=bI_kind hxy
 obtain rfl:op=op2:=by have:=congrArg In.op hxy;exact this
 obtain rfl:d=d2:=by have:=congrArg In.dst hxy;exact this
 obtain rfl:n=n2:=bI_nm hxy
 simp only at ha hb ⊢
 rw [bareI_eqS]
 exact eqi_sS k op d n a b p p2 pa pb ca cb w ha hb
theorem eqfi_same (a b:List In) (va vb:Value) (w:World) (ha:SlG kIn (·<w.heap.size) w va a) (hb:SlG kIn (·<w.heap.size) w vb b) (hEq:a.map bareI=b.map bareI) :
  Calls Tryz.prog 74 #[va,vb,.func (.func 75) #[] #[]] w fun e w'=>e=.returned (.bool (decide (a.map bareI=b.map bareI)))/\Below w.heap.size w w':=by
 obtain ⟨pa,ca,rfl⟩:=ha.slc
 obtain ⟨pb,cb,rfl⟩:=hb.slc
 have HA:=hid ha;have HB:=hid hb
 clear ha hb
 obtain ⟨r,hr⟩:∃ r,decide (a.map bareI=b.map bareI)=r:=⟨_,rfl⟩
 rw [hr]
 have HR:=hid hr
 clear hr
 have hl:a.length=b.length:=by have:=congrArg List.length hEq;simpa using this
 ·have hne:((a.length:Int) != (b.length:Int))=false:=by simp;omega
  have HLE:=hid hl
  clear hl
  go_enter Tryz.func74,Tryz.ntmps74
  go_wp2
  go_loopw [6,17] (fun rv iv wr=>∃ k:Nat,k<=a.length/\rv=.bool false/\iv=.int .i64 (k:Int)/\(a.map bareI).take k=(b.map bareI).take k/\Below w.heap.size w wr) (fun _ iv _=>a.length - (intOf iv).toNat)
  case atStart=>exact ⟨0,Nat.zero_le _,rfl,rfl,rfl,Below.refl _ _⟩
  case round =>
   obtain ⟨k,hk,rfl,rfl,htk,hbr⟩:=hrel
   by_cases hlt:k<a.length
   ·have hlb:k<b.length:=by have:=HLE.out;omega
    have hma:k<(a.map bareI).length:=by rw [List.length_map];exact hlt
    have hmb:k<(b.map bareI).length:=by rw [List.length_map];exact hlb
    obtain ⟨b1,o1,rfl,hR1,hc1⟩:=in_at HA.out (by omega:0<a.length)
    obtain ⟨b2,o2,rfl,hR2,hc2⟩:=in_at HB.out (by omega:0<b.length)
    obtain ⟨pX,cX,hX,c0,c1,c2,c3,c4,c5,c6⟩:=hc1 k hlt
    obtain ⟨pY,cY,hY,d0,d1,d2,d3,d4,d5,d6⟩:=hc2 k hlb
    have c0:=(hbr.cell (p:=⟨b1,o1+k*7,none⟩) hR1).trans c0
    have d0:=(hbr.cell (p:=⟨b2,o2+k*7,none⟩) hR2).trans d0
    have c1:=(hbr.cell (p:=⟨b1,o1+k*7+1,none⟩) hR1).trans c1
    have d1:=(hbr.cell (p:=⟨b2,o2+k*7+1,none⟩) hR2).trans d1
    have c2:=(hbr.cell (p:=⟨b1,o1+k*7+2,none⟩) hR1).trans c2
    have d2:=(hbr.cell (p:=⟨b2,o2+k*7+2,none⟩) hR2).trans d2
    have c3:=(hbr.cell (p:=⟨b1,o1+k*7+3,none⟩) hR1).trans c3
    have d3:=(hbr.cell (p:=⟨b2,o2+k*7+3,none⟩) hR2).trans d3
    have c4:=(hbr.cell (p:=⟨b1,o1+k*7+4,none⟩) hR1).trans c4
    have d4:=(hbr.cell (p:=⟨b2,o2+k*7+4,none⟩) hR2).trans d4
    have c5:=(hbr.cell (p:=⟨b1,o1+k*7+5,none⟩) hR1).trans c5
    have d5:=(hbr.cell (p:=⟨b2,o2+k*7+5,none⟩) hR2).trans d5
    have c6:=(hbr.cell (p:=⟨b1,o1+k*7+6,none⟩) hR1).trans c6
    have d6:=(hbr.cell (p:=⟨b2,o2+k*7+6,none⟩) hR2).trans d6
    have HXY:=hid (show bareI a[k]=bareI b[k] from by have h8:=List.getElem_of_eq hEq hma;rw [List.getElem_map,List.getElem_map] at h8;exact h8)
    have HT:=hid (show bareI a[k]=bareI b[k]->(a.map bareI).take (k+1)=(b.map bareI).take (k+1) from fun he=>take_nextL htk hma hmb (by rw [List.getElem_map,List.getElem_map];exact he))
    have HN:=hid (show bareI a[k] ≠ bareI b[k]->a.map bareI ≠ b.map bareI from fun he=>ne_atL hma hmb (by rw [List.getElem_map,List.getElem_map];exact he))
    have HLT:=hid hlt;have HBR:=hid hbr;have HRR:=hid (And.intro hR1 hR2)
    have HAX:=hid hX;have HAY:=hid hY
    clear hX hY
    clear hc1 hc2 htk hR1 hR2 hma hmb hbr
    generalize a[k]=x at *
    generalize b[k]=y at *
    go_upto_region 6 with fail
    obtain ⟨wx,hwx⟩:∃ W,wr.alloc (.cells #[.int .u8 (x.kind:Int),.int .u8 (x.op:Int),.string ⟨x.dst.toArray⟩,.string ⟨x.nm.toArray⟩,.slice pX x.args.length cX,.int .i64 x.pos.1,.int .i64 x.pos.2] 41)=W:=⟨_,rfl⟩
    have hbx:Below wr.heap.size wr wx:=by rw [<- hwx];exact bA
    have HX:=hid (show BxL 41 wr.heap.size [.int .u8 (x.kind:Int),.int .u8 (x.op:Int),.string ⟨x.dst.toArray⟩,.string ⟨x.nm.toArray⟩,.slice pX x.args.length cX,.int .i64 x.pos.1,.int .i64 x.pos.2] wx from by rw [<- hwx];exact BxL.new _ _ _)
    have HBX:=hid (HBR.trans (hbx.mono HBR.size))
    have d0:=(hbx.cell (p:=⟨b2,o2+k*7,none⟩) (Nat.lt_of_lt_of_le HRR.2 HBR.size)).trans d0
    have d1:=(hbx.cell (p:=⟨b2,o2+k*7+1,none⟩) (Nat.lt_of_lt_of_le HRR.2 HBR.size)).trans d1
    have d2:=(hbx.cell (p:=⟨b2,o2+k*7+2,none⟩) (Nat.lt_of_lt_of_le HRR.2 HBR.size)).trans d2
    have d3:=(hbx.cell (p:=⟨b2,o2+k*7+3,none⟩) (Nat.lt_of_lt_of_le HRR.2 HBR.size)).trans d3
    have d4:=(hbx.cell (p:=⟨b2,o2+k*7+4,none⟩) (Nat.lt_of_lt_of_le HRR.2 HBR.size)).trans d4
    have d5:=(hbx.cell (p:=⟨b2,o2+k*7+5,none⟩) (Nat.lt_of_lt_of_le HRR.2 HBR.size)).trans d5
    have d6:=(hbx.cell (p:=⟨b2,o2+k*7+6,none⟩) (Nat.lt_of_lt_of_le HRR.2 HBR.size)).trans d6
    have HXW:=hid hbx
    rw [hwx]
    clear hwx hbx c0 c1 c2 c3 c4 c5 c6
    go_upto_region 7 with fail
    obtain ⟨wy,hwy⟩:∃ W,wx.alloc (.cells #[.int .u8 (y.kind:Int),.int .u8 (y.op:Int),.string ⟨y.dst.toArray⟩,.string ⟨y.nm.toArray⟩,.slice pY y.args.length cY,.int .i64 y.pos.1,.int .i64 y.pos.2] 41)=W:=⟨_,rfl⟩
    have hby:Below wx.heap.size wx wy:=by rw [<- hwy];exact bA
    have HY:=hid (show BxL 41 wx.heap.size [.int .u8 (y.kind:Int),.int .u8 (y.op:Int),.string ⟨y.dst.toArray⟩,.string ⟨y.nm.toArray⟩,.slice pY y.args.length cY,.int .i64 y.pos.1,.int .i64 y.pos.2] wy from by rw [<- hwy];exact BxL.new _ _ _)
    have HX:=hid (HX.bel hby)
    have HBY:=hid (HBX.trans (hby.mono HBX.size))
    rw [hwy]
    clear hwy hby d0 d1 d2 d3 d4 d5 d6
    obtain ⟨c0,c1,c2,c3,c4,c5,c6⟩:=HX.p7
    obtain ⟨d0,d1,d2,d3,d4,d5,d6⟩:=HY.p7
    have hxy:=HXY.out
    ·have HT':=hid (HT.out hxy)
     have HD:=hid (show decide (bareI x=bareI y)=true from decide_eq_true hxy)
     clear HT HN hxy
     go_wp2_with (go_at_call 75;(refine (peqinstr_same x y _ _ _ (HAX.out.below HBY.out) (HAY.out.below HBY.out) HXY.out).mono ?_);rintro e w3 ⟨rfl,hb3⟩;rw [HD.out];have HB3:=hid (HBY.out.trans (hb3.mono HBY.out.size));clear hb3)
     go_roundw
     case rel=>exact ⟨k+1,HLT.out,by first | rfl | trivial,by rw [wrap_next HLT.out HA.len],HT'.out,HB3.out⟩
     case measure=>exact meas_next HLT.out HA.len
   ·obtain rfl:k=a.length:=by omega
    have HB2:=hid (show r=true from by rw [<- HR.out];exact decide_eq_true (eq_fullL (by rw [List.length_map];exact htk) (by rw [List.length_map,List.length_map];exact HLE.out)))
    have HBR:=hid hbr
    clear htk hlt hbr
    go_wp2
    go_ret
    exact ⟨by rw [HB2.out];rfl,HBR.out⟩
theorem eqf_sS (n:Bs) (a b:List Bs) (c d:List In) (p p2:Int × Int) (pa pb pc pd:Option Addr) (ca cb cc cd:Nat) (w:World) (ha:SlG kStr (·<w.heap.size) w (.slice pa a.length ca) a) (hb:SlG kStr (·<w.heap.size) w (.slice pb b.length cb) b)
  (hc:SlG kIn (·<w.heap.size) w (.slice pc c.length cc) c) (hd:SlG kIn (·<w.heap.size) w (.slice pd d.length cd) d) (h:a=b) (hcd:c.map bareI=d.map bareI) :
  Calls Tryz.prog 72 #[.agg #[.string ⟨n.toArray⟩,.slice pa a.length ca,.slice pc c.length cc,.int .i64 p.1,.int .i64 p.2],.agg #[.string ⟨n.toArray⟩,.slice pb b.length cb,.slice pd d.length cd,.int .i64 p2.1,.int .i64 p2.2]] w fun e w'=>e=.returned (.bool (decide (c.map bareI=d.map bareI)))/\Below w.heap.size w w':=by
 have HA:=hid ha;have HB:=hid hb;have HC:=hid hc;have HD:=hid hd
 have HCD:=hid hcd
 clear ha hb hc hd hcd
 have HR1:=hid (decide_eq_true h)
 clear h
 obtain ⟨r,hr⟩:∃ r,decide (c.map bareI=d.map bareI)=r:=⟨_,rfl⟩
 have HR2:=hid hr
 rw [hr]
 clear hr
 go_enter Tryz.func72,Tryz.ntmps72
 go_upto_region 1 with fail
 obtain ⟨w2,hw2⟩:∃ W,(w.alloc (.cells #[.string ⟨n.toArray⟩,.slice pa a.length ca,.slice pc c.length cc,.int .i64 p.1,.int .i64 p.2] 74)).alloc (.cells #[.string ⟨n.toArray⟩,.slice pb b.length cb,.slice pd d.length cd,.int .i64 p2.1,.int .i64 p2.2] 74)=W:=⟨_,rfl⟩
 have HB2:=hid (show Below w.heap.size w w2 from by rw [<- hw2];exact (bA).alloc (by rw [sA];omega) _)
 have HX:=hid (show BxL 74 w.heap.size [.string ⟨n.toArray⟩,.slice pa a.length ca,.slice pc c.length cc,.int .i64 p.1,.int .i64 p.2] w2 from by rw [<- hw2];exact (BxL.new _ _ _).al _)
 have HY:=hid (show BxL 74 (w.heap.size+1) [.string ⟨n.toArray⟩,.slice pb b.length cb,.slice pd d.length cd,.int .i64 p2.1,.int .i64 p2.2] w2 from by rw [<- hw2];have h9:=BxL.new 74 (w.alloc (.cells #[.string ⟨n.toArray⟩,.slice pa a.length ca,.slice pc c.length cc,.int .i64 p.1,.int .i64 p.2] 74)) [.string ⟨n.toArray⟩,.slice pb b.length cb,.slice pd d.length cd,.int .i64 p2.1,.int .i64 p2.2];rw [sA] at h9;exact h9)
 rw [hw2]
 clear hw2
 have xa0:∀ m,(w2.drewN m).cell? ⟨w.heap.size,0,none⟩=some (.string ⟨n.toArray⟩):=fun m=>HX.at 0 rfl
 have xb0:w2.cell? ⟨w.heap.size,0,none⟩=some (.string ⟨n.toArray⟩):=HX.at 0 rfl
 have xa1:∀ m,(w2.drewN m).cell? ⟨w.heap.size,1,none⟩=some (.slice pa a.length ca):=fun m=>HX.at 1 rfl
 have xb1:w2.cell? ⟨w.heap.size,1,none⟩=some (.slice pa a.length ca):=HX.at 1 rfl
 have xa2:∀ m,(w2.drewN m).cell? ⟨w.heap.size,2,none⟩=some (.slice pc c.length cc):=fun m=>HX.at 2 rfl
 have xb2:w2.cell? ⟨w.heap.size,2,none⟩=some (.slice pc c.length cc):=HX.at 2 rfl
 have xa3:∀ m,(w2.drewN m).cell? ⟨w.heap.size,3,none⟩=some (.int .i64 p.1):=fun m=>HX.at 3 rfl
 have xb3:w2.cell? ⟨w.heap.size,3,none⟩=some (.int .i64 p.1):=HX.at 3 rfl
 have xa4:∀ m,(w2.drewN m).cell? ⟨w.heap.size,4,none⟩=some (.int .i64 p.2):=fun m=>HX.at 4 rfl
 have xb4:w2.cell? ⟨w.heap.size,4,none⟩=some (.int .i64 p.2):=HX.at 4 rfl
 have ya0:∀ m,(w2.drewN m).cell? ⟨w.heap.size+1,0,none⟩=some (.string ⟨n.toArray⟩):=fun m=>HY.at 0 rfl
 have yb0:w2.cell? ⟨w.heap.size+1,0,none⟩=some (.string ⟨n.toArray⟩):=HY.at 0 rfl
 have ya1:∀ m,(w2.drewN m).cell? ⟨w.heap.size+1,1,none⟩=some (.slice pb b.length cb):=fun m=>HY.at 1 rfl
 have yb1:w2.cell? ⟨w.heap.size+1,1,none⟩=some (.slice pb b.length cb):=HY.at 1 rfl
 have ya2:∀ m,(w2.drewN m).cell? ⟨w.heap.size+1,2,none⟩=some (.slice pd d.length cd):=fun m=>HY.at 2 rfl
 have yb2:w2.cell? ⟨w.heap.size+1,2,none⟩=some (.slice pd d.length cd):=HY.at 2 rfl
 have ya3:∀ m,(w2.drewN m).cell? ⟨w.heap.size+1,3,none⟩=some (.int .i64 p2.1):=fun m=>HY.at 3 rfl
 have yb3:w2.cell? ⟨w.heap.size+1,3,none⟩=some (.int .i64 p2.1):=HY.at 3 rfl
 have ya4:∀ m,(w2.drewN m).cell? ⟨w.heap.size+1,4,none⟩=some (.int .i64 p2.2):=fun m=>HY.at 4 rfl
 have yb4:w2.cell? ⟨w.heap.size+1,4,none⟩=some (.int .i64 p2.2):=HY.at 4 rfl
 go_wp2_with (first
  | (go_at_call 73;(refine (eqstrs_any a b _ _ _ _ _ (HA.out.below HB2.out) (HB.out.below HB2.out)).mono ?_);rintro e w3 ⟨rfl,n3,rfl⟩;rw [HR1.out];have HW3:=hid (below_drewNES w2 n3))
  | (go_at_call 74;(refine (eqfi_same c d _ _ _ (HC.out.below (HB2.out.trans (HW3.out.mono HB2.out.size))) (HD.out.below (HB2.out.trans (HW3.out.mono HB2.out.size))) HCD.out).mono ?_);rintro e w4 ⟨rfl,hb4⟩;rw [HR2.out];have HW4:=hid (HB2.out.trans ((HW3.out.trans (hb4.mono lrf)).mono HB2.out.size));clear hb4))
 go_ret
 exact ⟨rfl,HW4.out⟩
theorem bareF_eqS (n:Bs) (a:List Bs) (c d:List In) (p p2:Int × Int):decide (bareF ⟨n,a,c,p⟩=bareF ⟨n,a,d,p2⟩)=decide (c.map bareI=d.map bareI):=by
 unfold bareF;simp
theorem eqfu_same (f g:Fu) (va vb vc vd:Value) (w:World) (ha:SlG kStr (·<w.heap.size) w va f.params) (hb:SlG kStr (·<w.heap.size) w vb g.params) (hc:SlG kIn (·<w.heap.size) w vc f.code) (hd:SlG kIn (·<w.heap.size) w vd g.code) (h:bareF f=bareF g) :
  Calls Tryz.prog 72 #[.agg #[.string ⟨f.nm.toArray⟩,va,vc,.int .i64 f.pos.1,.int .i64 f.pos.2],.agg #[.string ⟨g.nm.toArray⟩,vb,vd,.int .i64 g.pos.1,.int .i64 g.pos.2]] w fun e w'=>e=.returned (.bool (decide (bareF f=bareF g)))/\Below w.heap.size w w':=by
 obtain ⟨pa,ca,rfl⟩:=ha.slc
 obtain ⟨pb,cb,rfl⟩:=hb.slc
 obtain ⟨pc,cc,rfl⟩:=hc.slc
 obtain ⟨pd,cd,rfl⟩:=hd.slc
 obtain ⟨n,a,c,p⟩:=f
 obtain ⟨n2,b,d,p2⟩:=g
 obtain rfl:n=n2:=bF_nm h
 obtain rfl:a=b:=bF_params h
 simp only at ha hb hc hd ⊢
 rw [bareF_eqS]
 exact eqf_sS n a a c d p p2 pa pb pc pd ca cb cc cd w ha hb hc hd rfl (bF_code h)
theorem eqff_same (a b:List Fu) (va vb:Value) (w:World) (ha:SlG kFu (·<w.heap.size) w va a) (hb:SlG kFu (·<w.heap.size) w vb b) (hEq:a.map bareF=b.map bareF) :
  Calls Tryz.prog 77 #[va,vb,.func (.func 72) #[] #[]] w fun e w'=>e=.returned (.bool (decide (a.map bareF=b.map bareF)))/\Below w.heap.size w w':=by
 obtain ⟨pa,ca,rfl⟩:=ha.slc
 obtain ⟨pb,cb,rfl⟩:=hb.slc
 have HA:=hid ha;have HB:=hid hb
 clear ha hb
 obtain ⟨r,hr⟩:∃ r,decide (a.map bareF=b.map bareF)=r:=⟨_,rfl⟩
 rw [hr]
 have HR:=hid hr
 clear hr
 have hl:a.length=b.length:=by have:=congrArg List.length hEq;simpa using this
 ·have hne:((a.length:Int) != (b.length:Int))=false:=by simp;omega
  have HLE:=hid hl
  clear hl
  go_enter Tryz.func77,Tryz.ntmps77
  go_wp2
  go_loopw [6,17] (fun rv iv wr=>∃ k:Nat,k<=a.length/\rv=.bool false/\iv=.int .i64 (k:Int)/\(a.map bareF).take k=(b.map bareF).take k/\Below w.heap.size w wr) (fun _ iv _=>a.length - (intOf iv).toNat)
  case atStart=>exact ⟨0,Nat.zero_le _,rfl,rfl,rfl,Below.refl _ _⟩
  case round =>
   obtain ⟨k,hk,rfl,rfl,htk,hbr⟩:=hrel
   by_cases hlt:k<a.length
   ·have hlb:k<b.length:=by have:=HLE.out;omega
    have hma:k<(a.map bareF).length:=by rw [List.length_map];exact hlt
    have hmb:k<(b.map bareF).length:=by rw [List.length_map];exact hlb
    obtain ⟨b1,o1,rfl,hR1,hc1⟩:=fu_at HA.out (by omega:0<a.length)
    obtain ⟨b2,o2,rfl,hR2,hc2⟩:=fu_at HB.out (by omega:0<b.length)
    obtain ⟨pX,cX,pXc,cXc,hX,hcX,c0,c1,c2,c3,c4⟩:=hc1 k hlt
    obtain ⟨pY,cY,pYc,cYc,hY,hcY,d0,d1,d2,d3,d4⟩:=hc2 k hlb
    have c0:=(hbr.cell (p:=⟨b1,o1+k*5,none⟩) hR1).trans c0
    have d0:=(hbr.cell (p:=⟨b2,o2+k*5,none⟩) hR2).trans d0
    have c1:=(hbr.cell (p:=⟨b1,o1+k*5+1,none⟩) hR1).trans c1
    have d1:=(hbr.cell (p:=⟨b2,o2+k*5+1,none⟩) hR2).trans d1
    have c2:=(hbr.cell (p:=⟨b1,o1+k*5+2,none⟩) hR1).trans c2
    have d2:=(hbr.cell (p:=⟨b2,o2+k*5+2,none⟩) hR2).trans d2
    have c3:=(hbr.cell (p:=⟨b1,o1+k*5+3,none⟩) hR1).trans c3
    have d3:=(hbr.cell (p:=⟨b2,o2+k*5+3,none⟩) hR2).trans d3
    have c4:=(hbr.cell (p:=⟨b1,o1+k*5+4,none⟩) hR1).trans c4
    have d4:=(hbr.cell (p:=⟨b2,o2+k*5+4,none⟩) hR2).trans d4
    have HXY:=hid (show bareF a[k]=bareF b[k] from by have h8:=List.getElem_of_eq hEq hma;rw [List.getElem_map,List.getElem_map] at h8;exact h8)
    have HT:=hid (show bareF a[k]=bareF b[k]->(a.map bareF).take (k+1)=(b.map bareF).take (k+1) from fun he=>take_nextL htk hma hmb (by rw [List.getElem_map,List.getElem_map];exact he))
    have HN:=hid (show bareF a[k] ≠ bareF b[k]->a.map bareF ≠ b.map bareF from fun he=>ne_atL hma hmb (by rw [List.getElem_map,List.getElem_map];exact he))
    have HLT:=hid hlt;have HBR:=hid hbr;have HRR:=hid (And.intro hR1 hR2)
    have HAX:=hid hX;have HAY:=hid hY;have HCX:=hid hcX;have HCY:=hid hcY
    clear hX hY hcX hcY
    clear hc1 hc2 htk hR1 hR2 hma hmb hbr
    generalize a[k]=x at *
    generalize b[k]=y at *
    go_upto_region 6 with fail
    obtain ⟨wx,hwx⟩:∃ W,wr.alloc (.cells #[.string ⟨x.nm.toArray⟩,.slice pX x.params.length cX,.slice pXc x.code.length cXc,.int .i64 x.pos.1,.int .i64 x.pos.2] 74)=W:=⟨_,rfl⟩
    have hbx:Below wr.heap.size wr wx:=by rw [<- hwx];exact bA
    have HX:=hid (show BxL 74 wr.heap.size [.string ⟨x.nm.toArray⟩,.slice pX x.params.length cX,.slice pXc x.code.length cXc,.int .i64 x.pos.1,.int .i64 x.pos.2] wx from by rw [<- hwx];exact BxL.new _ _ _)
    have HBX:=hid (HBR.trans (hbx.mono HBR.size))
    have d0:=(hbx.cell (p:=⟨b2,o2+k*5,none⟩) (Nat.lt_of_lt_of_le HRR.2 HBR.size)).trans d0
    have d1:=(hbx.cell (p:=⟨b2,o2+k*5+1,none⟩) (Nat.lt_of_lt_of_le HRR.2 HBR.size)).trans d1
    have d2:=(hbx.cell (p:=⟨b2,o2+k*5+2,none⟩) (Nat.lt_of_lt_of_le HRR.2 HBR.size)).trans d2
    have d3:=(hbx.cell (p:=⟨b2,o2+k*5+3,none⟩) (Nat.lt_of_lt_of_le HRR.2 HBR.size)).trans d3
    have d4:=(hbx.cell (p:=⟨b2,o2+k*5+4,none⟩) (Nat.lt_of_lt_of_le HRR.2 HBR.size)).trans d4
    have HXW:=hid hbx
    rw [hwx]
    clear hwx hbx c0 c1 c2 c3 c4
    go_upto_region 7 with fail
    obtain ⟨wy,hwy⟩:∃ W,wx.alloc (.cells #[.string ⟨y.nm.toArray⟩,.slice pY y.params.length cY,.slice pYc y.code.length cYc,.int .i64 y.pos.1,.int .i64 y.pos.2] 74)=W:=⟨_,rfl⟩
    have hby:Below wx.heap.size wx wy:=by rw [<- hwy];exact bA
    have HY:=hid (show BxL 74 wx.heap.size [.string ⟨y.nm.toArray⟩,.slice pY y.params.length cY,.slice pYc y.code.length cYc,.int .i64 y.pos.1,.int .i64 y.pos.2] wy from by rw [<- hwy];exact BxL.new _ _ _)
    have HX:=hid (HX.bel hby)
    have HBY:=hid (HBX.trans (hby.mono HBX.size))
    rw [hwy]
    clear hwy hby d0 d1 d2 d3 d4
    obtain ⟨c0,c1,c2,c3,c4⟩:=HX.p5
    obtain ⟨d0,d1,d2,d3,d4⟩:=HY.p5
    have hxy:=HXY.out
    ·have HT':=hid (HT.out hxy)
     have HD:=hid (show decide (bareF x=bareF y)=true from decide_eq_true hxy)
     clear HT HN hxy
     go_wp2_with (go_at_call 72;(refine (eqfu_same x y _ _ _ _ _ (HAX.out.below HBY.out) (HAY.out.below HBY.out) (HCX.out.below HBY.out) (HCY.out.below HBY.out) HXY.out).mono ?_);rintro e w3 ⟨rfl,hb3⟩;rw [HD.out];have HB3:=hid (HBY.out.trans (hb3.mono HBY.out.size));clear hb3)
     go_roundw
     case rel=>exact ⟨k+1,HLT.out,by first | rfl | trivial,by rw [wrap_next HLT.out HA.len],HT'.out,HB3.out⟩
     case measure=>exact meas_next HLT.out HA.len
   ·obtain rfl:k=a.length:=by omega
    have HB2:=hid (show r=true from by rw [<- HR.out];exact decide_eq_true (eq_fullL (by rw [List.length_map];exact htk) (by rw [List.length_map,List.length_map];exact HLE.out)))
    have HBR:=hid hbr
    clear htk hlt hbr
    go_wp2
    go_ret
    exact ⟨by rw [HB2.out];rfl,HBR.out⟩
theorem eqg_4S (p q:Pg) (pa pb pc pd qa qb qc qd:Option Addr) (ca cb cc cd xa xb xc xd:Nat) (w:World) (hp:PgV (·<w.heap.size) w (.slice pa p.chans.length ca) (.slice pb p.arrays.length cb) (.slice pc p.funcs.length cc) (.slice pd p.main.length cd) p)
  (hq:PgV (·<w.heap.size) w (.slice qa q.chans.length xa) (.slice qb q.arrays.length xb) (.slice qc q.funcs.length xc) (.slice qd q.main.length xd) q) (r:Bool) (h0:p.width=q.width) (H1:Hid (decide (p.chans=q.chans)=true)) (H2:Hid (decide (p.arrays=q.arrays)=true)) (H3:Hid (decide (p.funcs.map bareF=q.funcs.map bareF)=true)) (H4:Hid (decide (p.main.map bareI=q.main.map bareI)=r)) (hmn:p.main.map bareI=q.main.map bareI) :
  Calls Tryz.prog 32 #[.agg #[.int .i64 p.width,.slice pa p.chans.length ca,.slice pb p.arrays.length cb,.slice pc p.funcs.length cc,.slice pd p.main.length cd],.agg #[.int .i64 q.width,.slice qa q.chans.length xa,.slice qb q.arrays.length xb,.slice qc q.funcs.length xc,.slice qd q.main.length xd]] w fun e w'=>e=.returned (.bool r)/\Below w.heap.size w w':=by
 have HP:=hid hp;have HQ:=hid hq
 have HMN:=hid hmn
 clear hp hq hmn
 have hw0:(p.width == q.width)=true:=by rw [beq_iff_eq];exact h0
 have HW0:=hid h0
 clear h0
 go_enter Tryz.func32,Tryz.ntmps32
 go_upto_region 1 with fail
 obtain ⟨w2,hw2⟩:∃ W,(w.alloc (.cells #[.int .i64 p.width,.slice pa p.chans.length ca,.slice pb p.arrays.length cb,.slice pc p.funcs.length cc,.slice pd p.main.length cd] 27)).alloc (.cells #[.int .i64 q.width,.slice qa q.chans.length xa,.slice qb q.arrays.length xb,.slice qc q.funcs.length xc,.slice qd q.main.length xd] 27)=W:=⟨_,rfl⟩
 have HB2:=hid (show Below w.heap.size w w2 from by rw [<- hw2];exact (bA).alloc (by rw [sA];omega) _)
 have HX:=hid (show BxL 27 w.heap.size [.int .i64 p.width,.slice pa p.chans.length ca,.slice pb p.arrays.length cb,.slice pc p.funcs.length cc,.slice pd p.main.length cd] w2 from by rw [<- hw2];exact (BxL.new _ _ _).al _)
 have HY:=hid (show BxL 27 (w.heap.size+1) [.int .i64 q.width,.slice qa q.chans.length xa,.slice qb q.arrays.length xb,.slice qc q.funcs.length xc,.slice qd q.main.length xd] w2 from by rw [<- hw2];have h9:=BxL.new 27 (w.alloc (.cells #[.int .i64 p.width,.slice pa p.chans.length ca,.slice pb p.arrays.length cb,.slice pc p.funcs.length cc,.slice pd p.main.length cd] 27)) [.int .i64 q.width,.slice qa q.chans.length xa,.slice qb q.arrays.length xb,.slice qc q.funcs.length xc,.slice qd q.main.length xd];rw [sA] at h9;exact h9)
 rw [hw2]
 clear hw2
 have xa0:∀ m,(w2.drewN m).cell? ⟨w.heap.size,0,none⟩=some (.int .i64 p.width):=fun m=>HX.at 0 rfl
 have xb0:w2.cell? ⟨w.heap.size,0,none⟩=some (.int .i64 p.width):=HX.at 0 rfl
 have xa1:∀ m,(w2.drewN m).cell? ⟨w.heap.size,1,none⟩=some (.slice pa p.chans.length ca):=fun m=>HX.at 1 rfl
 have xb1:w2.cell? ⟨w.heap.size,1,none⟩=some (.slice pa p.chans.length ca):=HX.at 1 rfl
 have xa2:∀ m,(w2.drewN m).cell? ⟨w.heap.size,2,none⟩=some (.slice pb p.arrays.length cb):=fun m=>HX.at 2 rfl
 have xb2:w2.cell? ⟨w.heap.size,2,none⟩=some (.slice pb p.arrays.length cb):=HX.at 2 rfl
 have xa3:∀ m,(w2.drewN m).cell? ⟨w.heap.size,3,none⟩=some (.slice pc p.funcs.length cc):=fun m=>HX.at 3 rfl
 have xb3:w2.cell? ⟨w.heap.size,3,none⟩=some (.slice pc p.funcs.length cc):=HX.at 3 rfl
 have xa4:∀ m,(w2.drewN m).cell? ⟨w.heap.size,4,none⟩=some (.slice pd p.main.length cd):=fun m=>HX.at 4 rfl
 have xb4:w2.cell? ⟨w.heap.size,4,none⟩=some (.slice pd p.main.length cd):=HX.at 4 rfl
 have ya0:∀ m,(w2.drewN m).cell? ⟨w.heap.size+1,0,none⟩=some (.int .i64 q.width):=fun m=>HY.at 0 rfl
 have yb0:w2.cell? ⟨w.heap.size+1,0,none⟩=some (.int .i64 q.width):=HY.at 0 rfl
 have ya1:∀ m,(w2.drewN m).cell? ⟨w.heap.size+1,1,none⟩=some (.slice qa q.chans.length xa):=fun m=>HY.at 1 rfl
 have yb1:w2.cell? ⟨w.heap.size+1,1,none⟩=some (.slice qa q.chans.length xa):=HY.at 1 rfl
 have ya2:∀ m,(w2.drewN m).cell? ⟨w.heap.size+1,2,none⟩=some (.slice qb q.arrays.length xb):=fun m=>HY.at 2 rfl
 have yb2:w2.cell? ⟨w.heap.size+1,2,none⟩=some (.slice qb q.arrays.length xb):=HY.at 2 rfl
 have ya3:∀ m,(w2.drewN m).cell? ⟨w.heap.size+1,3,none⟩=some (.slice qc q.funcs.length xc):=fun m=>HY.at 3 rfl
 have yb3:w2.cell? ⟨w.heap.size+1,3,none⟩=some (.slice qc q.funcs.length xc):=HY.at 3 rfl
 have ya4:∀ m,(w2.drewN m).cell? ⟨w.heap.size+1,4,none⟩=some (.slice qd q.main.length xd):=fun m=>HY.at 4 rfl
 have yb4:w2.cell? ⟨w.heap.size+1,4,none⟩=some (.slice qd q.main.length xd):=HY.at 4 rfl
 go_wp2_with (first
  | (go_at_call 73;(refine (eqstrs_any p.chans q.chans _ _ _ _ _ (HP.out.1.below HB2.out) (HQ.out.1.below HB2.out)).mono ?_);rintro e w3 ⟨rfl,n3,rfl⟩;rw [H1.out];have HW3:=hid (HB2.out.trans ((below_drewNES w2 n3).mono HB2.out.size)))
  | (go_at_call 76;(refine (eqarrs_any p.arrays q.arrays _ _ _ _ _ (HP.out.2.1.below HW3.out) (HQ.out.2.1.below HW3.out)).mono ?_);rintro e w4 ⟨rfl,n4,rfl⟩;rw [H2.out];have HW4:=hid (show Below w.heap.size w (w2.drewN (n3+n4)) from HB2.out.trans ((below_drewNES w2 (n3+n4)).mono HB2.out.size));have HX4:=hid (show BxL 27 w.heap.size [.int .i64 p.width,.slice pa p.chans.length ca,.slice pb p.arrays.length cb,.slice pc p.funcs.length cc,.slice pd p.main.length cd] (w2.drewN (n3+n4)) from HX.out);have HY4:=hid (show BxL 27 (w.heap.size+1) [.int .i64 q.width,.slice qa q.chans.length xa,.slice qb q.arrays.length xb,.slice qc q.funcs.length xc,.slice qd q.main.length xd] (w2.drewN (n3+n4)) from HY.out))
  | (go_at_call 77;(refine (eqff_same p.funcs q.funcs _ _ _ (HP.out.2.2.1.below HW4.out) (HQ.out.2.2.1.below HW4.out) (of_decide_eq_true H3.out)).mono ?_);rintro e w5 ⟨rfl,hb5⟩;rw [H3.out];have HW5:=hid (HW4.out.trans (hb5.mono HW4.out.size));have e14:=(HX4.out.bel hb5).at 4 rfl;have e24:=(HY4.out.bel hb5).at 4 rfl;clear hb5)
  | (go_at_call 74;(refine (eqfi_same p.main q.main _ _ _ (HP.out.2.2.2.below HW5.out) (HQ.out.2.2.2.below HW5.out) HMN.out).mono ?_);rintro e w6 ⟨rfl,hb6⟩;rw [H4.out];have HW6:=hid (HW5.out.trans (hb6.mono HW5.out.size));clear hb6))
 go_ret
 exact ⟨rfl,HW6.out⟩
theorem equal_same (p q:Pg) (a b c d a' b' c' d':Value) (w:World) (hp:PgV (·<w.heap.size) w a b c d p) (hq:PgV (·<w.heap.size) w a' b' c' d' q) (h:bareP p=bareP q) :
  Calls Tryz.prog 32 #[.agg #[.int .i64 p.width,a,b,c,d],.agg #[.int .i64 q.width,a',b',c',d']] w fun e w'=>e=.returned (.bool true)/\Below w.heap.size w w':=by
 obtain ⟨pa,xa,rfl⟩:=hp.1.slc
 obtain ⟨pb,xb,rfl⟩:=hp.2.1.slc
 obtain ⟨pc,xc,rfl⟩:=hp.2.2.1.slc
 obtain ⟨pd,xd,rfl⟩:=hp.2.2.2.slc
 obtain ⟨qa,ya,rfl⟩:=hq.1.slc
 obtain ⟨qb,yb,rfl⟩:=hq.2.1.slc
 obtain ⟨qc,yc,rfl⟩:=hq.2.2.1.slc
 obtain ⟨qd,yd,rfl⟩:=hq.2.2.2.slc
 exact eqg_4S p q _ _ _ _ _ _ _ _ _ _ _ _ _ _ _ _ w hp hq true (bP_width h) (hid (decide_eq_true (bP_chans h))) (hid (decide_eq_true (bP_arrays h))) (hid (decide_eq_true (bP_funcs h))) (hid (decide_eq_true (bP_main h))) (bP_main h)
end Go.Proofs.YtoofbgoeipijcaaGreatDoor
