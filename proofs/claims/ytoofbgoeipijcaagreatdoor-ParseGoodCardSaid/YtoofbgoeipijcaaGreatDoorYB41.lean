/-
 The kit: equal programs.
-/
import Derived.Test.YtoofbgoeipijcaaGreatDoorYB40
namespace Go.Proofs.YtoofbgoeipijcaaGreatDoor
set_option maxRecDepth 100000
set_option maxHeartbeats 8000000
set_option linter.unusedSimpArgs false
set_option linter.unusedVariables false
open Go.RowKit Go.Shelf
attribute [local go_sem] Oper.semAt_some
theorem eqprog_same (p:Pg) (va vb vc vd ua ub uc ud:Value) (w:World) (hp:PgV (·<w.heap.size) w va vb vc vd p) (hr:PgV (·<w.heap.size) w ua ub uc ud p) :
  Calls Tryz.prog 16 #[.agg #[.int .i64 p.width,va,vb,vc,vd],.agg #[.int .i64 p.width,ua,ub,uc,ud]] w fun e w'=>e = .returned (.bool true)/\Below w.heap.size w w':=by
 obtain ⟨aa,ma,h1⟩:=hp.1.slc
 obtain ⟨ab,mb,h2⟩:=hp.2.1.slc
 obtain ⟨ac,mc,h3⟩:=hp.2.2.1.slc
 obtain ⟨ad,md,h4⟩:=hp.2.2.2.slc
 obtain ⟨ba,na,h5⟩:=hr.1.slc
 obtain ⟨bb,nb,h6⟩:=hr.2.1.slc
 obtain ⟨bc,nc,h7⟩:=hr.2.2.1.slc
 obtain ⟨bd,nd,h8⟩:=hr.2.2.2.slc
 subst h1 h2 h3 h4 h5 h6 h7 h8
 have HP:=hid hp;have HR:=hid hr
 clear hp hr
 go_enter Tryz.func16,Tryz.ntmps16
 go_upto_region 1 with fail
 obtain ⟨w2,hw2⟩:∃ W,(w.alloc (.cells #[.int .i64 p.width,.slice aa p.chans.length ma,.slice ab p.arrays.length mb,.slice ac p.funcs.length mc,.slice ad p.main.length md] 27)).alloc (.cells #[.int .i64 p.width,.slice ba p.chans.length na,.slice bb p.arrays.length nb,.slice bc p.funcs.length nc,.slice bd p.main.length nd] 27)=W:=⟨_,rfl⟩
 have HB1:=hid (show Below w.heap.size w w2 from by rw [<- hw2];exact (bA).alloc (by rw [World.size_alloc];omega) _)
 have HX1:=hid (show BxL 27 w.heap.size [.int .i64 p.width,.slice aa p.chans.length ma,.slice ab p.arrays.length mb,.slice ac p.funcs.length mc,.slice ad p.main.length md] w2 from by rw [<- hw2];exact (BxL.new _ _ _).al _)
 have HY1:=hid (show BxL 27 (w.heap.size+1) [.int .i64 p.width,.slice ba p.chans.length na,.slice bb p.arrays.length nb,.slice bc p.funcs.length nc,.slice bd p.main.length nd] w2 from by rw [<- hw2];have:=BxL.new 27 (w.alloc (.cells #[.int .i64 p.width,.slice aa p.chans.length ma,.slice ab p.arrays.length mb,.slice ac p.funcs.length mc,.slice ad p.main.length md] 27)) [.int .i64 p.width,.slice ba p.chans.length na,.slice bb p.arrays.length nb,.slice bc p.funcs.length nc,.slice bd p.main.length nd];rw [World.size_alloc] at this;exact this)
 have HP1:=hid (HP.below HB1.out);have HR1:=hid (HR.below HB1.out)
 rw [hw2]
 clear hw2
 have p0:w2.cell? ⟨w.heap.size,0,none⟩=some (.int .i64 p.width):=HX1.at 0 rfl
 have q0:w2.cell? ⟨w.heap.size+1,0,none⟩=some (.int .i64 p.width):=HY1.at 0 rfl
 have p1:w2.cell? ⟨w.heap.size,1,none⟩=some (.slice aa p.chans.length ma):=HX1.at 1 rfl
 have q1:w2.cell? ⟨w.heap.size+1,1,none⟩=some (.slice ba p.chans.length na):=HY1.at 1 rfl
 have p2:w2.cell? ⟨w.heap.size,2,none⟩=some (.slice ab p.arrays.length mb):=HX1.at 2 rfl
 have q2:w2.cell? ⟨w.heap.size+1,2,none⟩=some (.slice bb p.arrays.length nb):=HY1.at 2 rfl
 have p3:w2.cell? ⟨w.heap.size,3,none⟩=some (.slice ac p.funcs.length mc):=HX1.at 3 rfl
 have q3:w2.cell? ⟨w.heap.size+1,3,none⟩=some (.slice bc p.funcs.length nc):=HY1.at 3 rfl
 have p4:w2.cell? ⟨w.heap.size,4,none⟩=some (.slice ad p.main.length md):=HX1.at 4 rfl
 have q4:w2.cell? ⟨w.heap.size+1,4,none⟩=some (.slice bd p.main.length nd):=HY1.at 4 rfl
 go_wp2_with (first
  | (go_at_call 55;(refine (eqstrs_sameK p.chans _ _ _ _ _ (HP1.out.1) (HR1.out.1)).mono ?_);rintro e w3 ⟨rfl,nn,hww⟩;have hb:Below w2.heap.size w2 w3:=(by rw [<- hww];exact below_drewN w2 nn);clear hww;have HB2:=hid (HB1.out.trans (hb.mono HB1.out.size));have HX2:=hid (HX1.out.bel hb);have HY2:=hid (HY1.out.bel hb);have HP2:=hid (HP1.out.below hb);have HR2:=hid (HR1.out.below hb);clear hb p0 q0 p1 q1 p2 q2 p3 q3 p4 q4;have p0:w3.cell? ⟨w.heap.size,0,none⟩=some (.int .i64 p.width):=HX2.out.at 0 rfl;have q0:w3.cell? ⟨w.heap.size+1,0,none⟩=some (.int .i64 p.width):=HY2.out.at 0 rfl;have p1:w3.cell? ⟨w.heap.size,1,none⟩=some (.slice aa p.chans.length ma):=HX2.out.at 1 rfl;have q1:w3.cell? ⟨w.heap.size+1,1,none⟩=some (.slice ba p.chans.length na):=HY2.out.at 1 rfl;have p2:w3.cell? ⟨w.heap.size,2,none⟩=some (.slice ab p.arrays.length mb):=HX2.out.at 2 rfl;have q2:w3.cell? ⟨w.heap.size+1,2,none⟩=some (.slice bb p.arrays.length nb):=HY2.out.at 2 rfl;have p3:w3.cell? ⟨w.heap.size,3,none⟩=some (.slice ac p.funcs.length mc):=HX2.out.at 3 rfl;have q3:w3.cell? ⟨w.heap.size+1,3,none⟩=some (.slice bc p.funcs.length nc):=HY2.out.at 3 rfl;have p4:w3.cell? ⟨w.heap.size,4,none⟩=some (.slice ad p.main.length md):=HX2.out.at 4 rfl;have q4:w3.cell? ⟨w.heap.size+1,4,none⟩=some (.slice bd p.main.length nd):=HY2.out.at 4 rfl)
  | (go_at_call 56;(refine (eqarrs_sameK p.arrays _ _ _ _ _ (HP2.out.2.1) (HR2.out.2.1)).mono ?_);rintro e w4 ⟨rfl,nn,hww⟩;have hb:Below w3.heap.size w3 w4:=(by rw [<- hww];exact below_drewN w3 nn);clear hww;have HB3:=hid (HB2.out.trans (hb.mono HB2.out.size));have HX3:=hid (HX2.out.bel hb);have HY3:=hid (HY2.out.bel hb);have HP3:=hid (HP2.out.below hb);have HR3:=hid (HR2.out.below hb);clear hb p0 q0 p1 q1 p2 q2 p3 q3 p4 q4;have p0:w4.cell? ⟨w.heap.size,0,none⟩=some (.int .i64 p.width):=HX3.out.at 0 rfl;have q0:w4.cell? ⟨w.heap.size+1,0,none⟩=some (.int .i64 p.width):=HY3.out.at 0 rfl;have p1:w4.cell? ⟨w.heap.size,1,none⟩=some (.slice aa p.chans.length ma):=HX3.out.at 1 rfl;have q1:w4.cell? ⟨w.heap.size+1,1,none⟩=some (.slice ba p.chans.length na):=HY3.out.at 1 rfl;have p2:w4.cell? ⟨w.heap.size,2,none⟩=some (.slice ab p.arrays.length mb):=HX3.out.at 2 rfl;have q2:w4.cell? ⟨w.heap.size+1,2,none⟩=some (.slice bb p.arrays.length nb):=HY3.out.at 2 rfl;have p3:w4.cell? ⟨w.heap.size,3,none⟩=some (.slice ac p.funcs.length mc):=HX3.out.at 3 rfl;have q3:w4.cell? ⟨w.heap.size+1,3,none⟩=some (.slice bc p.funcs.length nc):=HY3.out.at 3 rfl;have p4:w4.cell? ⟨w.heap.size,4,none⟩=some (.slice ad p.main.length md):=HX3.out.at 4 rfl;have q4:w4.cell? ⟨w.heap.size+1,4,none⟩=some (.slice bd p.main.length nd):=HY3.out.at 4 rfl)
  | (go_at_call 57;(refine (eqfuncs_same p.funcs _ _ _ (HP3.out.2.2.1) (HR3.out.2.2.1)).mono ?_);rintro e w5 ⟨rfl,hb⟩;have HB4:=hid (HB3.out.trans (hb.mono HB3.out.size));have HX4:=hid (HX3.out.bel hb);have HY4:=hid (HY3.out.bel hb);have HP4:=hid (HP3.out.below hb);have HR4:=hid (HR3.out.below hb);clear hb p0 q0 p1 q1 p2 q2 p3 q3 p4 q4;have p0:w5.cell? ⟨w.heap.size,0,none⟩=some (.int .i64 p.width):=HX4.out.at 0 rfl;have q0:w5.cell? ⟨w.heap.size+1,0,none⟩=some (.int .i64 p.width):=HY4.out.at 0 rfl;have p1:w5.cell? ⟨w.heap.size,1,none⟩=some (.slice aa p.chans.length ma):=HX4.out.at 1 rfl;have q1:w5.cell? ⟨w.heap.size+1,1,none⟩=some (.slice ba p.chans.length na):=HY4.out.at 1 rfl;have p2:w5.cell? ⟨w.heap.size,2,none⟩=some (.slice ab p.arrays.length mb):=HX4.out.at 2 rfl;have q2:w5.cell? ⟨w.heap.size+1,2,none⟩=some (.slice bb p.arrays.length nb):=HY4.out.at 2 rfl;have p3:w5.cell? ⟨w.heap.size,3,none⟩=some (.slice ac p.funcs.length mc):=HX4.out.at 3 rfl;have q3:w5.cell? ⟨w.heap.size+1,3,none⟩=some (.slice bc p.funcs.length nc):=HY4.out.at 3 rfl;have p4:w5.cell? ⟨w.heap.size,4,none⟩=some (.slice ad p.main.length md):=HX4.out.at 4 rfl;have q4:w5.cell? ⟨w.heap.size+1,4,none⟩=some (.slice bd p.main.length nd):=HY4.out.at 4 rfl)
  | (go_at_call 58;(refine (eqinstrs_same p.main _ _ _ (HP4.out.2.2.2) (HR4.out.2.2.2)).mono ?_);rintro e w6 ⟨rfl,hb⟩;have HB5:=hid (HB4.out.trans (hb.mono HB4.out.size));have HX5:=hid (HX4.out.bel hb);have HY5:=hid (HY4.out.bel hb);have HP5:=hid (HP4.out.below hb);have HR5:=hid (HR4.out.below hb);clear hb p0 q0 p1 q1 p2 q2 p3 q3 p4 q4;have p0:w6.cell? ⟨w.heap.size,0,none⟩=some (.int .i64 p.width):=HX5.out.at 0 rfl;have q0:w6.cell? ⟨w.heap.size+1,0,none⟩=some (.int .i64 p.width):=HY5.out.at 0 rfl;have p1:w6.cell? ⟨w.heap.size,1,none⟩=some (.slice aa p.chans.length ma):=HX5.out.at 1 rfl;have q1:w6.cell? ⟨w.heap.size+1,1,none⟩=some (.slice ba p.chans.length na):=HY5.out.at 1 rfl;have p2:w6.cell? ⟨w.heap.size,2,none⟩=some (.slice ab p.arrays.length mb):=HX5.out.at 2 rfl;have q2:w6.cell? ⟨w.heap.size+1,2,none⟩=some (.slice bb p.arrays.length nb):=HY5.out.at 2 rfl;have p3:w6.cell? ⟨w.heap.size,3,none⟩=some (.slice ac p.funcs.length mc):=HX5.out.at 3 rfl;have q3:w6.cell? ⟨w.heap.size+1,3,none⟩=some (.slice bc p.funcs.length nc):=HY5.out.at 3 rfl;have p4:w6.cell? ⟨w.heap.size,4,none⟩=some (.slice ad p.main.length md):=HX5.out.at 4 rfl;have q4:w6.cell? ⟨w.heap.size+1,4,none⟩=some (.slice bd p.main.length nd):=HY5.out.at 4 rfl))
 go_ret
 exact ⟨rfl,HB5.out⟩
theorem fails_any (s t:Bs) (L C E m:Int) (w:World) (hE:PrE0 w) (hm:w.cell? ⟨0,0,none⟩=some (.int .i64 m)) (hs:s.length<=65536) (ht:Lib.replaceAll s [124] [10]=t) (hr:(parseM t).2=((L,C),E)) :
  Calls Tryz.prog 30 #[.string ⟨s.toArray⟩,.int .i64 L,.int .i64 C,.int .i64 E] w fun e w'=>e = .returned (.bool true)/\Below w.heap.size w w':=by
 have HE:=hid hE;have HM:=hid hm
 have HRA:=hid (show Calls Tryz.prog 29 #[.string ⟨s.toArray⟩,.string ⟨#[124]⟩,.string ⟨#[10]⟩] w (fun e w'=>e = .returned (.string ⟨t.toArray⟩)/\Below w.heap.size w w') from by
  have hc:=Lib.countB_le ⟨#[124]⟩ (by decide) s.length ⟨s.toArray⟩ lrf
  have h:=Tryz.strings_ReplaceAll ⟨s.toArray⟩ ⟨#[124]⟩ ⟨#[10]⟩ m w (by show s.length<_;omega) hm (by decide) (by show s.length+_*1<=_;have:(ByteArray.mk s.toArray).size=s.length:=rfl;omega)
  rw [show Lib.replaceAll (ByteArray.mk s.toArray).data.toList (ByteArray.mk #[124]).data.toList (ByteArray.mk #[10]).data.toList=t from ht] at h
  exact h)
 have HR:=hid hr
 clear hE hm hs ht hr
 go_enter Tryz.func30,Tryz.ntmps30
 go_upto_region 2 with (first
  | (go_at_call 29;(with_reducible refine HRA.out.mono ?_);rintro e w1 ⟨rfl,hb⟩;have HB1:=hid hb;have HPA:=hid (parse_any t m w1 (HE.out.below hb) ((hb.cell (p:=⟨_,_,none⟩) (cell_size HM.out)).trans HM.out));clear hb)
  | (go_at_call 28;(with_reducible refine HPA.out.mono ?_);rintro e w2 ⟨hb,a,b,c,d,he,hp⟩;rw [HR.out] at he;obtain ⟨ra,ya,h1⟩:=hp.1.slc;obtain ⟨rb,yb,h2⟩:=hp.2.1.slc;obtain ⟨rc,yc,h3⟩:=hp.2.2.1.slc;obtain ⟨rd,yd,h4⟩:=hp.2.2.2.slc;subst h1 h2 h3 h4;subst he;have HB2:=hid (HB1.out.trans (hb.mono HB1.out.size));clear hb hp))
 generalize hwd:(parseM t).1.width=wd
 go_wp2_with fail
 go_ret
 exact ⟨rfl,(HB2.alloc HB2.size _).alloc (Nat.le_trans HB2.size (by rw [World.size_alloc];omega)) _⟩
theorem fl_0 (m:Int) (w:World) (hE:PrE0 w) (hm:w.cell? ⟨0,0,none⟩=some (.int .i64 m)):Calls Tryz.prog 30 #[.string ⟨#[119,105,100,116,104,32,48,124,109,97,105,110,124,101,110,100]⟩,.int .i64 1,.int .i64 7,.int .i64 3] w fun e w'=>e = .returned (.bool true)/\Below w.heap.size w w':=fails_any [119,105,100,116,104,32,48,124,109,97,105,110,124,101,110,100] _ _ _ _ m w hE hm (by decide) ex_rep0 ex_pos0
theorem fl_1 (m:Int) (w:World) (hE:PrE0 w) (hm:w.cell? ⟨0,0,none⟩=some (.int .i64 m)):Calls Tryz.prog 30 #[.string ⟨#[119,105,100,116,104,32,49,124,109,97,105,110]⟩,.int .i64 2,.int .i64 5,.int .i64 4] w fun e w'=>e = .returned (.bool true)/\Below w.heap.size w w':=fails_any [119,105,100,116,104,32,49,124,109,97,105,110] _ _ _ _ m w hE hm (by decide) ex_rep1 ex_pos1
theorem fl_2 (m:Int) (w:World) (hE:PrE0 w) (hm:w.cell? ⟨0,0,none⟩=some (.int .i64 m)):Calls Tryz.prog 30 #[.string ⟨#[119,105,100,116,104,32,49,124,99,104,97,110,32,99,124,99,104,97,110,32,99,124,109,97,105,110,124,101,110,100]⟩,.int .i64 3,.int .i64 6,.int .i64 8] w fun e w'=>e = .returned (.bool true)/\Below w.heap.size w w':=fails_any [119,105,100,116,104,32,49,124,99,104,97,110,32,99,124,99,104,97,110,32,99,124,109,97,105,110,124,101,110,100] _ _ _ _ m w hE hm (by decide) ex_rep2 ex_pos2
theorem fl_3 (m:Int) (w:World) (hE:PrE0 w) (hm:w.cell? ⟨0,0,none⟩=some (.int .i64 m)):Calls Tryz.prog 30 #[.string ⟨#[119,105,100,116,104,32,49,124,109,97,105,110,124,120,32,61,32,108,111,97,100,32,97,32,49,124,101,110,100]⟩,.int .i64 3,.int .i64 10,.int .i64 6] w fun e w'=>e = .returned (.bool true)/\Below w.heap.size w w':=fails_any [119,105,100,116,104,32,49,124,109,97,105,110,124,120,32,61,32,108,111,97,100,32,97,32,49,124,101,110,100] _ _ _ _ m w hE hm (by decide) ex_rep3 ex_pos3
theorem fl_4 (m:Int) (w:World) (hE:PrE0 w) (hm:w.cell? ⟨0,0,none⟩=some (.int .i64 m)):Calls Tryz.prog 30 #[.string ⟨#[119,105,100,116,104,32,49,124,109,97,105,110,124,106,117,109,112,32,76,124,101,110,100]⟩,.int .i64 3,.int .i64 1,.int .i64 6] w fun e w'=>e = .returned (.bool true)/\Below w.heap.size w w':=fails_any [119,105,100,116,104,32,49,124,109,97,105,110,124,106,117,109,112,32,76,124,101,110,100] _ _ _ _ m w hE hm (by decide) ex_rep4 ex_pos4
theorem fl_5 (m:Int) (w:World) (hE:PrE0 w) (hm:w.cell? ⟨0,0,none⟩=some (.int .i64 m)):Calls Tryz.prog 30 #[.string ⟨#[119,105,100,116,104,32,49,124,109,97,105,110,124,120,32,61,124,101,110,100]⟩,.int .i64 3,.int .i64 1,.int .i64 4] w fun e w'=>e = .returned (.bool true)/\Below w.heap.size w w':=fails_any [119,105,100,116,104,32,49,124,109,97,105,110,124,120,32,61,124,101,110,100] _ _ _ _ m w hE hm (by decide) ex_rep5 ex_pos5
theorem fl_6 (m:Int) (w:World) (hE:PrE0 w) (hm:w.cell? ⟨0,0,none⟩=some (.int .i64 m)):Calls Tryz.prog 30 #[.string ⟨#[119,105,100,116,104,32,49,124,102,117,110,99,32,102,124,120,32,61,32,99,97,108,108,32,102,124,101,110,100,124,109,97,105,110,124,101,110,100]⟩,.int .i64 2,.int .i64 1,.int .i64 9] w fun e w'=>e = .returned (.bool true)/\Below w.heap.size w w':=fails_any [119,105,100,116,104,32,49,124,102,117,110,99,32,102,124,120,32,61,32,99,97,108,108,32,102,124,101,110,100,124,109,97,105,110,124,101,110,100] _ _ _ _ m w hE hm (by decide) ex_rep6 ex_pos6
theorem fl_7 (m:Int) (w:World) (hE:PrE0 w) (hm:w.cell? ⟨0,0,none⟩=some (.int .i64 m)):Calls Tryz.prog 30 #[.string ⟨#[119,105,100,116,104,32,49,124,109,97,105,110,124,120,32,61,32,97,100,100,32,49,124,101,110,100]⟩,.int .i64 3,.int .i64 1,.int .i64 4] w fun e w'=>e = .returned (.bool true)/\Below w.heap.size w w':=fails_any [119,105,100,116,104,32,49,124,109,97,105,110,124,120,32,61,32,97,100,100,32,49,124,101,110,100] _ _ _ _ m w hE hm (by decide) ex_rep7 ex_pos7
theorem fl_8 (m:Int) (w:World) (hE:PrE0 w) (hm:w.cell? ⟨0,0,none⟩=some (.int .i64 m)):Calls Tryz.prog 30 #[.string ⟨#[119,105,100,116,104,32,49,124,109,97,105,110,124,120,32,61,32,97,100,100,32,49,32,50,32,51,124,101,110,100]⟩,.int .i64 3,.int .i64 13,.int .i64 4] w fun e w'=>e = .returned (.bool true)/\Below w.heap.size w w':=fails_any [119,105,100,116,104,32,49,124,109,97,105,110,124,120,32,61,32,97,100,100,32,49,32,50,32,51,124,101,110,100] _ _ _ _ m w hE hm (by decide) ex_rep8 ex_pos8
theorem fl_9 (m:Int) (w:World) (hE:PrE0 w) (hm:w.cell? ⟨0,0,none⟩=some (.int .i64 m)):Calls Tryz.prog 30 #[.string ⟨#[101,110,100,124,101,110,100]⟩,.int .i64 1,.int .i64 1,.int .i64 4] w fun e w'=>e = .returned (.bool true)/\Below w.heap.size w w':=fails_any [101,110,100,124,101,110,100] _ _ _ _ m w hE hm (by decide) ex_rep9 ex_pos9
theorem fl_10 (m:Int) (w:World) (hE:PrE0 w) (hm:w.cell? ⟨0,0,none⟩=some (.int .i64 m)):Calls Tryz.prog 30 #[.string ⟨#[]⟩,.int .i64 1,.int .i64 1,.int .i64 4] w fun e w'=>e = .returned (.bool true)/\Below w.heap.size w w':=fails_any [] _ _ _ _ m w hE hm (by decide) ex_rep10 ex_pos10
theorem SlG.box2 {α:Type} {K:EK α} {R:Nat->Prop} {w:World} {t:TypeId} {q:Nat} {c1 c2:List Value} {x y:α} (h:BxL t q (c1++c2) w) (hx:K.E R w c1 x) (hy:K.E R w c2 y) (hR:R q):SlG K R w (.slice (some ⟨q,0,none⟩) 2 2) [x,y]:=by
 refine ⟨[c1,c2],⟨rfl,fun i hi hi'=>?_⟩,_,_,rfl,Nat.le_refl _,by show (2:Nat)<=maxLen;unfold maxLen;omega,by show (2:Nat)<=_;omega,.inr ⟨q,0,rfl,hR,fun j hj=>?_⟩⟩
 ·match i,hi with
  | 0,_=>exact hx
  | 1,_=>exact hy
 ·have e:[c1,c2].flatten=c1++c2:=by simp
  have hj':j<(c1++c2).length:=by rw [<- e];exact hj
  rw [Nat.zero_add,h.at j (List.getElem?_eq_getElem hj')]
  congr 1
  simp only [e]
theorem awake23_any (m:Int) (w:World) (hE:PrE0 w) (hm:w.cell? ⟨0,0,none⟩=some (.int .i64 m)):Calls Tryz.prog 25 #[] w fun e w'=>e = .returned (.bool true)/\Below w.heap.size w w':=by
 have HE:=hid hE;have HM:=hid hm
 clear hE hm
 go_enter Tryz.func25,Tryz.ntmps25
 go_upto_region 2 with (go_at_call 28;(refine (parse_any [119,105,100,116,104,32,50,10,99,104,97,110,32,99,10,109,97,105,110,10,105,110,32,120,32,99,10,111,117,116,32,99,32,120,10,101,110,100] m _ HE.out HM.out).mono ?_);rintro e w1 ⟨hb,a,b,c,d,he,hp⟩;rw [parse_read ex_want] at he hp;obtain ⟨ra,ya,h1⟩:=hp.1.slc;obtain ⟨rb,yb,h2⟩:=hp.2.1.slc;obtain ⟨rc,yc,h3⟩:=hp.2.2.1.slc;obtain ⟨rd,yd,h4⟩:=hp.2.2.2.slc;subst h1 h2 h3 h4;subst he;have HB1:=hid hb;have HP1:=hid hp;clear hb hp)
 obtain ⟨w2,hw2⟩:∃ W,(w1.alloc (.cells #[.int .i64 wantE.width,.slice ra wantE.chans.length ya,.slice rb wantE.arrays.length yb,.slice rc wantE.funcs.length yc,.slice rd wantE.main.length yd] 27)).alloc (.cells #[.int .i64 0,.int .i64 0] 39)=W:=⟨_,rfl⟩
 have hb2:Below w1.heap.size w1 w2:=by rw [<- hw2];exact (bA).alloc (by rw [World.size_alloc];omega) _
 have HX2:=hid (show BxL 27 w1.heap.size [.int .i64 2,.slice ra 1 ya,.slice rb 0 yb,.slice rc 0 yc,.slice rd 2 yd] w2 from by rw [<- hw2];exact (BxL.new _ _ _).al _)
 have HY2:=hid (show BxL 39 (w1.heap.size+1) [.int .i64 0,.int .i64 0] w2 from by rw [<- hw2];have h9:=BxL.new 39 (w1.alloc (.cells #[.int .i64 wantE.width,.slice ra wantE.chans.length ya,.slice rb wantE.arrays.length yb,.slice rc wantE.funcs.length yc,.slice rd wantE.main.length yd] 27)) [.int .i64 0,.int .i64 0];rw [World.size_alloc] at h9;exact h9)
 rw [hw2]
 have HB2:=hid (HB1.trans (hb2.mono HB1.size));have HP2:=hid (HP1.below hb2)
 clear hb2 hw2
 go_upto_region 3 with fail
 obtain ⟨w6,hw6⟩:∃ W,(((w2.alloc (.cells #[.string ⟨#[99]⟩] 9)).alloc (.cells #[.string ⟨#[120]⟩,.int .u64 0] 43)).alloc (.cells #[.int .u8 5,.int .u8 0,.string ⟨#[120]⟩,.string ⟨#[99]⟩,.slice none 0 0,.int .i64 4,.int .i64 1,.int .u8 6,.int .u8 0,.string ⟨#[]⟩,.string ⟨#[99]⟩,.slice (some ⟨w2.heap.size+1,0,none⟩) 1 1,.int .i64 5,.int .i64 1] 41)).alloc (.cells #[.int .i64 2,.slice (some ⟨w2.heap.size,0,none⟩) 1 1,.slice none 0 0,.slice none 0 0,.slice (some ⟨w2.heap.size+1+1,0,none⟩) 2 2] 27)=W:=⟨_,rfl⟩
 have hb6:Below w2.heap.size w2 w6:=by rw [<- hw6];exact (((bA).alloc (by simp only [World.size_alloc];omega) _).alloc (by simp only [World.size_alloc];omega) _).alloc (by simp only [World.size_alloc];omega) _
 have HA:=hid (show BxL 9 w2.heap.size [.string ⟨#[99]⟩] w6 from by rw [<- hw6];exact (((BxL.new _ _ _).al _).al _).al _)
 have HG:=hid (show BxL 43 (w2.heap.size+1) [.string ⟨#[120]⟩,.int .u64 0] w6 from by rw [<- hw6];have h9:=BxL.new 43 (w2.alloc (.cells #[.string ⟨#[99]⟩] 9)) [.string ⟨#[120]⟩,.int .u64 0];rw [World.size_alloc] at h9;exact (h9.al _).al _)
 have HC:=hid (show BxL 41 (w2.heap.size+1+1) ([.int .u8 5,.int .u8 0,.string ⟨#[120]⟩,.string ⟨#[99]⟩,.slice none 0 0,.int .i64 4,.int .i64 1]++[.int .u8 6,.int .u8 0,.string ⟨#[]⟩,.string ⟨#[99]⟩,.slice (some ⟨w2.heap.size+1,0,none⟩) 1 1,.int .i64 5,.int .i64 1]) w6 from by rw [<- hw6];have h9:=BxL.new 41 ((w2.alloc (.cells #[.string ⟨#[99]⟩] 9)).alloc (.cells #[.string ⟨#[120]⟩,.int .u64 0] 43)) ([.int .u8 5,.int .u8 0,.string ⟨#[120]⟩,.string ⟨#[99]⟩,.slice none 0 0,.int .i64 4,.int .i64 1]++[.int .u8 6,.int .u8 0,.string ⟨#[]⟩,.string ⟨#[99]⟩,.slice (some ⟨w2.heap.size+1,0,none⟩) 1 1,.int .i64 5,.int .i64 1]);rw [World.size_alloc,World.size_alloc] at h9;exact h9.al _)
 have HD:=hid (show BxL 27 (w2.heap.size+1+1+1) [.int .i64 2,.slice (some ⟨w2.heap.size,0,none⟩) 1 1,.slice none 0 0,.slice none 0 0,.slice (some ⟨w2.heap.size+1+1,0,none⟩) 2 2] w6 from by rw [<- hw6];have h9:=BxL.new 27 (((w2.alloc (.cells #[.string ⟨#[99]⟩] 9)).alloc (.cells #[.string ⟨#[120]⟩,.int .u64 0] 43)).alloc (.cells #[.int .u8 5,.int .u8 0,.string ⟨#[120]⟩,.string ⟨#[99]⟩,.slice none 0 0,.int .i64 4,.int .i64 1,.int .u8 6,.int .u8 0,.string ⟨#[]⟩,.string ⟨#[99]⟩,.slice (some ⟨w2.heap.size+1,0,none⟩) 1 1,.int .i64 5,.int .i64 1] 41)) [.int .i64 2,.slice (some ⟨w2.heap.size,0,none⟩) 1 1,.slice none 0 0,.slice none 0 0,.slice (some ⟨w2.heap.size+1+1,0,none⟩) 2 2];rw [World.size_alloc,World.size_alloc,World.size_alloc] at h9;exact h9)
 rw [hw6]
 have HB6:=hid (HB2.trans (hb6.mono HB2.size));have HP6:=hid (HP2.below hb6);have HX6:=hid (HX2.bel hb6);have HY6:=hid (HY2.bel hb6)
 clear hb6 hw6
 have HPG:=hid (show PgV (·<w6.heap.size) w6 (.slice (some ⟨w2.heap.size,0,none⟩) 1 1) (.slice none 0 0) (.slice none 0 0) (.slice (some ⟨w2.heap.size+1+1,0,none⟩) 2 2) wantE from ⟨SlG.box HA.out rfl HA.lt,SlG.nil,SlG.nil,SlG.box2 HC.out ⟨_,rfl,SlG.nil⟩ ⟨_,rfl,SlG.box HG.out rfl HG.lt⟩ HC.lt⟩)
 have n0:=HX6.at 0 rfl;have n1:=HX6.at 1 rfl;have n2:=HX6.at 2 rfl;have n3:=HX6.at 3 rfl;have n4:=HX6.at 4 rfl
 have m0:=HD.at 0 rfl;have m1:=HD.at 1 rfl;have m2:=HD.at 2 rfl;have m3:=HD.at 3 rfl;have m4:=HD.at 4 rfl
 have HEQ:=hid (show Calls Tryz.prog 16 #[.agg #[.int .i64 2,.slice ra 1 ya,.slice rb 0 yb,.slice rc 0 yc,.slice rd 2 yd],.agg #[.int .i64 2,.slice (some ⟨w2.heap.size,0,none⟩) 1 1,.slice none 0 0,.slice none 0 0,.slice (some ⟨w2.heap.size+1+1,0,none⟩) 2 2]] w6 (fun e w'=>e = .returned (.bool true)/\Below w6.heap.size w6 w') from eqprog_same wantE _ _ _ _ _ _ _ _ w6 HP6.out HPG.out)
 go_upto_region 5 with (go_at_call 16;(with_reducible refine HEQ.out.mono ?_);rintro e wn ⟨rfl,hb⟩;have HB:=hid (HB6.out.trans (hb.mono HB6.out.size));have y0:=(HY6.out.bel hb).at 0 rfl;have y1:=(HY6.out.bel hb).at 1 rfl;have HEn:=hid (HE.out.below HB.out);have HMn:=hid ((HB.out.cell (p:=⟨_,_,none⟩) (cell_size HM.out)).trans HM.out);clear hb n0 n1 n2 n3 n4 m0 m1 m2 m3 m4)
 clear y0 y1
 go_wp2_with (go_at_call 30;(first | with_reducible refine (fl_0 m _ HEn.out HMn.out).mono ?_ | with_reducible refine (fl_1 m _ HEn.out HMn.out).mono ?_ | with_reducible refine (fl_2 m _ HEn.out HMn.out).mono ?_ | with_reducible refine (fl_3 m _ HEn.out HMn.out).mono ?_ | with_reducible refine (fl_4 m _ HEn.out HMn.out).mono ?_ | with_reducible refine (fl_5 m _ HEn.out HMn.out).mono ?_ | with_reducible refine (fl_6 m _ HEn.out HMn.out).mono ?_ | with_reducible refine (fl_7 m _ HEn.out HMn.out).mono ?_ | with_reducible refine (fl_8 m _ HEn.out HMn.out).mono ?_ | with_reducible refine (fl_9 m _ HEn.out HMn.out).mono ?_ | with_reducible refine (fl_10 m _ HEn.out HMn.out).mono ?_);rintro e wn ⟨rfl,hb⟩;have HB:=hid (HB.out.trans (hb.mono HB.out.size));have HEn:=hid (HEn.out.below hb);have HMn:=hid ((hb.cell (p:=⟨_,_,none⟩) (cell_size HMn.out)).trans HMn.out);clear hb)
 go_ret
 exact ⟨rfl,HB.out⟩
end Go.Proofs.YtoofbgoeipijcaaGreatDoor
namespace Go.Proofs.YtoofbgoeipijcaaGreatDoor
set_option maxRecDepth 100000
set_option maxHeartbeats 8000000
set_option linter.unusedSimpArgs false
set_option linter.unusedVariables false
open Go.RowKit Go.Shelf
def simE {α β:Type} (R:α->β->Prop) (x:PE α) (y:PE β):Prop:=match x,y with | .error f,.error g=>f.2=g.2 | .ok a,.ok b=>R a b | _,_=>False
theorem simE.bind {α β γ δ:Type} {R:α->β->Prop} {R':γ->δ->Prop} {x:PE α} {y:PE β} {g:α->PE γ} {g':β->PE δ} (h:simE R x y) (hg:∀ a b,R a b->simE R' (g a) (g' b)):simE R' (x >>= g) (y >>= g'):=by
 cases x <;> cases y
 ·exact h
 ·exact h.elim
 ·exact h.elim
 ·exact hg _ _ h
theorem simE.need {b b':Bool} {p p':Int × Int} {e e':Int} (h:b=b') (he:e=e'):simE (fun _ _=>True) (needM b p e) (needM b' p' e'):=by
 subst h he;cases b
 ·exact (rfl:e=e)
 ·exact trivial
theorem simE.ok {α β:Type} {R:α->β->Prop} {a:α} {b:β} (h:R a b):simE R (pure a:PE α) (pure b:PE β):=h
abbrev tx (ws:List Wd):List Bs:=ws.map (·.1)
section
variable {f g:Int × Int} {ws ws':List Wd}
end
structure SS (S S':PS):Prop where
 p:bareP S.p=bareP S'.p
 lb:S.labels=S'.labels
 st:S.sites=S'.sites
 nn:S.inn=S'.inn
 sp:S.step=S'.step
theorem SS.ch {S S':PS} (h:SS S S'):S.p.chans=S'.p.chans:=bP_chans h.p
theorem SS.ar {S S':PS} (h:SS S S'):S.p.arrays=S'.p.arrays:=bP_arrays h.p
theorem SS.an {S S':PS} (h:SS S S'):anamesP S.p=anamesP S'.p:=by unfold anamesP;rw [h.ar]
theorem SS.fu {S S':PS} (h:SS S S'):S.p.funcs.map bareF=S'.p.funcs.map bareF:=bP_funcs h.p
theorem SS.mn {S S':PS} (h:SS S S'):S.p.main.map bareI=S'.p.main.map bareI:=bP_main h.p
theorem SS.fl {S S':PS} (h:SS S S'):S.p.funcs.length=S'.p.funcs.length:=by have:=congrArg List.length h.fu;simpa using this
theorem SS.fn {S S':PS} (h:SS S S'):S.p.funcs.map Fu.nm=S'.p.funcs.map Fu.nm:=by
 have:=congrArg (List.map Fu.nm) h.fu
 rw [List.map_map,List.map_map] at this
 exact this
section
variable {f g:Int × Int} {ws ws':List Wd} {S S':PS}
theorem SS.code (hS:SS S S'):(codeP S).map bareI=(codeP S').map bareI:=by
 unfold codeP
 rw [hS.nn]
 split
 ·have:=congrArg List.getLast? hS.fu
  rw [List.getLast?_map,List.getLast?_map] at this
  cases h1:S.p.funcs.getLast? with
  | none=>rw [h1] at this;cases h2:S'.p.funcs.getLast? with
   | none=>rfl
   | some b=>rw [h2] at this;cases this
  | some a=>rw [h1] at this;cases h2:S'.p.funcs.getLast? with
   | none=>rw [h2] at this;cases this
   | some b=>rw [h2] at this;exact bF_code (by simpa using this)
 ·exact hS.mn
theorem SS.put (hS:SS S S') {l l':List In} (hl:l.map bareI=l'.map bareI):bareP (putCode S l)=bareP (putCode S' l'):=by
 unfold putCode
 rw [hS.nn]
 split
 ·have h0:=congrArg List.getLast? hS.fu
  rw [List.getLast?_map,List.getLast?_map] at h0
  have hd:=congrArg List.dropLast hS.fu
  rw [<- List.map_dropLast,<- List.map_dropLast] at hd
  unfold bareP
  dsimp only
  rw [List.map_append,List.map_append,hd,bP_width hS.p,hS.ch,hS.ar,hS.mn]
  cases h1:S.p.funcs.getLast? with
  | none=>rw [h1] at h0;cases h2:S'.p.funcs.getLast? with
   | none=>rfl
   | some b=>rw [h2] at h0;cases h0
  | some a=>rw [h1] at h0;cases h2:S'.p.funcs.getLast? with
   | none=>rw [h2] at h0;cases h0
   | some b =>
    rw [h2] at h0
    have hb:bareF a=bareF b:=by simpa using h0
    have:bareF { a with code:=l }=bareF { b with code:=l' }:=by
     unfold bareF;dsimp only;rw [hl,bF_nm hb,bF_params hb]
    simp [this]
 ·unfold bareP
  dsimp only
  rw [hl,bP_width hS.p,hS.ch,hS.ar,hS.fu]
end
end Go.Proofs.YtoofbgoeipijcaaGreatDoor
