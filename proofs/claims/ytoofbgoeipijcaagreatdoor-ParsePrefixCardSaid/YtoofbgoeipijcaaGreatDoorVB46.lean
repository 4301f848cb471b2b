/-
 A part.
-/
import Derived.Test.YtoofbgoeipijcaaGreatDoorVB45
import Derived.Test.YtoofbgoeipijcaaGreatDoorVB32
namespace Go.Proofs.YtoofbgoeipijcaaGreatDoor
set_option maxRecDepth 100000
set_option maxHeartbeats 4000000
set_option linter.all false
open Go.RowKit Go.Shelf
attribute [local go_sem] Oper.semAt_some
theorem fails_any (s t:Bs) (L C E m:Int) (w:World) (hE:PrE0 w) (hm:w.cell? ⟨0,0,none⟩=some (.int .i64 m)) (hs:s.length<=65536) (ht:Lib.replaceAll s [124] [10]=t) (hr:(parseM t).2=((L,C),E)) :
  Calls Tryz.prog 30 #[.string ⟨s.toArray⟩,.int .i64 L,.int .i64 C,.int .i64 E] w fun e w'=>e=.returned (.bool true)/\Below w.heap.size w w':=by
 have HE:=hid hE;have HM:=hid hm
 have HRA:=hid (show Calls Tryz.prog 29 #[.string ⟨s.toArray⟩,.string ⟨#[124]⟩,.string ⟨#[10]⟩] w (fun e w'=>e=.returned (.string ⟨t.toArray⟩)/\Below w.heap.size w w') from by
  have hc:=Lib.countB_le ⟨#[124]⟩ (by decide) s.length ⟨s.toArray⟩ lrf
  have h:=Tryz.strings_ReplaceAll ⟨s.toArray⟩ ⟨#[124]⟩ ⟨#[10]⟩ m w (by show s.length<_;omega) hm (by decide) (by show s.length+_*1<=_;have:(ByteArray.mk s.toArray).size=s.length:=rfl;omega)
  rw [show Lib.replaceAll (ByteArray.mk s.toArray).data.toList (ByteArray.mk #[124]).data.toList (ByteArray.mk #[10]).data.toList=t from ht] at h
  exact h)
 have HR:=hid hr
 clear hE hm hs ht hr
 go_enter Tryz.func30,Tryz.ntmps30
 go_upto_region 2 with (first
  | (go_at_call 29;(with_reducible refine HRA.out.mono ?_);rintro e w1 ⟨rfl,hb⟩;have HB1:=hid hb;have HPA:=hid (parse_any t m w1 (HE.out.below hb) (cB hb HM.out));clear hb)
  | (go_at_call 28;(with_reducible refine HPA.out.mono ?_);rintro e w2 ⟨hb,a,b,c,d,he,hp⟩;rw [HR.out] at he;obtain ⟨ra,ya,h1⟩:=hp.1.slc;obtain ⟨rb,yb,h2⟩:=hp.2.1.slc;obtain ⟨rc,yc,h3⟩:=hp.2.2.1.slc;obtain ⟨rd,yd,h4⟩:=hp.2.2.2.slc;subst h1 h2 h3 h4;subst he;have HB2:=hid (HB1.out.trans (hb.mono HB1.out.size));clear hb hp))
 generalize hwd:(parseM t).1.width=wd
 go_wp2_with fail
 go_ret
 exact ⟨rfl,(HB2.alloc HB2.size _).alloc (Nat.le_trans HB2.size (by rw [sA];omega)) _⟩
theorem fl_0 (m:Int) (w:World) (hE:PrE0 w) (hm:w.cell? ⟨0,0,none⟩=some (.int .i64 m)):Calls Tryz.prog 30 #[.string ⟨#[119,105,100,116,104,32,48,124,109,97,105,110,124,101,110,100]⟩,.int .i64 1,.int .i64 7,.int .i64 3] w fun e w'=>e=.returned (.bool true)/\Below w.heap.size w w':=fails_any [119,105,100,116,104,32,48,124,109,97,105,110,124,101,110,100] _ _ _ _ m w hE hm (by decide) ex_rep0 ex_pos0
theorem fl_1 (m:Int) (w:World) (hE:PrE0 w) (hm:w.cell? ⟨0,0,none⟩=some (.int .i64 m)):Calls Tryz.prog 30 #[.string ⟨#[119,105,100,116,104,32,49,124,109,97,105,110]⟩,.int .i64 2,.int .i64 5,.int .i64 4] w fun e w'=>e=.returned (.bool true)/\Below w.heap.size w w':=fails_any [119,105,100,116,104,32,49,124,109,97,105,110] _ _ _ _ m w hE hm (by decide) ex_rep1 ex_pos1
theorem fl_2 (m:Int) (w:World) (hE:PrE0 w) (hm:w.cell? ⟨0,0,none⟩=some (.int .i64 m)):Calls Tryz.prog 30 #[.string ⟨#[119,105,100,116,104,32,49,124,99,104,97,110,32,99,124,99,104,97,110,32,99,124,109,97,105,110,124,101,110,100]⟩,.int .i64 3,.int .i64 6,.int .i64 8] w fun e w'=>e=.returned (.bool true)/\Below w.heap.size w w':=fails_any [119,105,100,116,104,32,49,124,99,104,97,110,32,99,124,99,104,97,110,32,99,124,109,97,105,110,124,101,110,100] _ _ _ _ m w hE hm (by decide) ex_rep2 ex_pos2
theorem fl_3 (m:Int) (w:World) (hE:PrE0 w) (hm:w.cell? ⟨0,0,none⟩=some (.int .i64 m)):Calls Tryz.prog 30 #[.string ⟨#[119,105,100,116,104,32,49,124,109,97,105,110,124,120,32,61,32,108,111,97,100,32,97,32,49,124,101,110,100]⟩,.int .i64 3,.int .i64 10,.int .i64 6] w fun e w'=>e=.returned (.bool true)/\Below w.heap.size w w':=fails_any [119,105,100,116,104,32,49,124,109,97,105,110,124,120,32,61,32,108,111,97,100,32,97,32,49,124,101,110,100] _ _ _ _ m w hE hm (by decide) ex_rep3 ex_pos3
theorem fl_4 (m:Int) (w:World) (hE:PrE0 w) (hm:w.cell? ⟨0,0,none⟩=some (.int .i64 m)):Calls Tryz.prog 30 #[.string ⟨#[119,105,100,116,104,32,49,124,109,97,105,110,124,106,117,109,112,32,76,124,101,110,100]⟩,.int .i64 3,.int .i64 1,.int .i64 6] w fun e w'=>e=.returned (.bool true)/\Below w.heap.size w w':=fails_any [119,105,100,116,104,32,49,124,109,97,105,110,124,106,117,109,112,32,76,124,101,110,100] _ _ _ _ m w hE hm (by decide) ex_rep4 ex_pos4
theorem fl_5 (m:Int) (w:World) (hE:PrE0 w) (hm:w.cell? ⟨0,0,none⟩=some (.int .i64 m)):Calls Tryz.prog 30 #[.string ⟨#[119,105,100,116,104,32,49,124,109,97,105,110,124,120,32,61,124,101,110,100]⟩,.int .i64 3,.int .i64 1,.int .i64 4] w fun e w'=>e=.returned (.bool true)/\Below w.heap.size w w':=fails_any [119,105,100,116,104,32,49,124,109,97,105,110,124,120,32,61,124,101,110,100] _ _ _ _ m w hE hm (by decide) ex_rep5 ex_pos5
theorem fl_6 (m:Int) (w:World) (hE:PrE0 w) (hm:w.cell? ⟨0,0,none⟩=some (.int .i64 m)):Calls Tryz.prog 30 #[.string ⟨#[119,105,100,116,104,32,49,124,102,117,110,99,32,102,124,120,32,61,32,99,97,108,108,32,102,124,101,110,100,124,109,97,105,110,124,101,110,100]⟩,.int .i64 2,.int .i64 1,.int .i64 9] w fun e w'=>e=.returned (.bool true)/\Below w.heap.size w w':=fails_any [119,105,100,116,104,32,49,124,102,117,110,99,32,102,124,120,32,61,32,99,97,108,108,32,102,124,101,110,100,124,109,97,105,110,124,101,110,100] _ _ _ _ m w hE hm (by decide) ex_rep6 ex_pos6
theorem fl_7 (m:Int) (w:World) (hE:PrE0 w) (hm:w.cell? ⟨0,0,none⟩=some (.int .i64 m)):Calls Tryz.prog 30 #[.string ⟨#[119,105,100,116,104,32,49,124,109,97,105,110,124,120,32,61,32,97,100,100,32,49,124,101,110,100]⟩,.int .i64 3,.int .i64 1,.int .i64 4] w fun e w'=>e=.returned (.bool true)/\Below w.heap.size w w':=fails_any [119,105,100,116,104,32,49,124,109,97,105,110,124,120,32,61,32,97,100,100,32,49,124,101,110,100] _ _ _ _ m w hE hm (by decide) ex_rep7 ex_pos7
theorem fl_8 (m:Int) (w:World) (hE:PrE0 w) (hm:w.cell? ⟨0,0,none⟩=some (.int .i64 m)):Calls Tryz.prog 30 #[.string ⟨#[119,105,100,116,104,32,49,124,109,97,105,110,124,120,32,61,32,97,100,100,32,49,32,50,32,51,124,101,110,100]⟩,.int .i64 3,.int .i64 13,.int .i64 4] w fun e w'=>e=.returned (.bool true)/\Below w.heap.size w w':=fails_any [119,105,100,116,104,32,49,124,109,97,105,110,124,120,32,61,32,97,100,100,32,49,32,50,32,51,124,101,110,100] _ _ _ _ m w hE hm (by decide) ex_rep8 ex_pos8
theorem fl_9 (m:Int) (w:World) (hE:PrE0 w) (hm:w.cell? ⟨0,0,none⟩=some (.int .i64 m)):Calls Tryz.prog 30 #[.string ⟨#[101,110,100,124,101,110,100]⟩,.int .i64 1,.int .i64 1,.int .i64 4] w fun e w'=>e=.returned (.bool true)/\Below w.heap.size w w':=fails_any [101,110,100,124,101,110,100] _ _ _ _ m w hE hm (by decide) ex_rep9 ex_pos9
theorem fl_10 (m:Int) (w:World) (hE:PrE0 w) (hm:w.cell? ⟨0,0,none⟩=some (.int .i64 m)):Calls Tryz.prog 30 #[.string ⟨#[]⟩,.int .i64 1,.int .i64 1,.int .i64 4] w fun e w'=>e=.returned (.bool true)/\Below w.heap.size w w':=fails_any [] _ _ _ _ m w hE hm (by decide) ex_rep10 ex_pos10
theorem SlG.box2 {α:Type} {K:EK α} {R:Nat->Prop} {w:World} {t:TypeId} {q:Nat} {c1 c2:List Value} {x y:α} (h:BxL t q (c1++c2) w) (hx:K.E R w c1 x) (hy:K.E R w c2 y) (hR:R q):SlG K R w (.slice (some ⟨q,0,none⟩) 2 2) [x,y]:=by
 refine ⟨[c1,c2],⟨rfl,fun i hi hi'=>?_⟩,_,_,rfl,Nat.le_refl _,by show (2:Nat)<=maxLen;unfold maxLen;omega,by show (2:Nat)<=_;omega,.inr ⟨q,0,rfl,hR,fun j hj=>?_⟩⟩
 ·match i,hi with
  | 0,_=>exact hx
  | 1,_=>exact hy
 ·have e:[c1,c2].flatten=c1++c2:=by simp
  have hj':j<(c1++c2).length:=by rw [<- e];exact hj
  rw [Nat.zero_add,h.at j (List.getElem?_eq_getElem hj')]
  congr 1
  simp only [e]
theorem awake23_any (m:Int) (w:World) (hE:PrE0 w) (hm:w.cell? ⟨0,0,none⟩=some (.int .i64 m)):Calls Tryz.prog 25 #[] w fun e w'=>e=.returned (.bool true)/\Below w.heap.size w w':=by
 have HE:=hid hE;have HM:=hid hm
 clear hE hm
 go_enter Tryz.func25,Tryz.ntmps25
 go_upto_region 2 with (go_at_call 28;(refine (parse_any [119,105,100,116,104,32,50,10,99,104,97,110,32,99,10,109,97,105,110,10,105,110,32,120,32,99,10,111,117,116,32,99,32,120,10,101,110,100] m _ HE.out HM.out).mono ?_);rintro e w1 ⟨hb,a,b,c,d,he,hp⟩;rw [parse_read ex_want] at he hp;obtain ⟨ra,ya,h1⟩:=hp.1.slc;obtain ⟨rb,yb,h2⟩:=hp.2.1.slc;obtain ⟨rc,yc,h3⟩:=hp.2.2.1.slc;obtain ⟨rd,yd,h4⟩:=hp.2.2.2.slc;subst h1 h2 h3 h4;subst he;have HB1:=hid hb;have HP1:=hid hp;clear hb hp)
 obtain ⟨w2,hw2⟩:∃ W,(w1.alloc (.cells #[.int .i64 wantE.width,.slice ra wantE.chans.length ya,.slice rb wantE.arrays.length yb,.slice rc wantE.funcs.length yc,.slice rd wantE.main.length yd] 27)).alloc (.cells #[.int .i64 0,.int .i64 0] 39)=W:=⟨_,rfl⟩
 have hb2:Below w1.heap.size w1 w2:=by rw [<- hw2];exact (bA).alloc (by rw [sA];omega) _
 have HX2:=hid (show BxL 27 w1.heap.size [.int .i64 2,.slice ra 1 ya,.slice rb 0 yb,.slice rc 0 yc,.slice rd 2 yd] w2 from by rw [<- hw2];exact (BxL.new _ _ _).al _)
 have HY2:=hid (show BxL 39 (w1.heap.size+1) [.int .i64 0,.int .i64 0] w2 from by rw [<- hw2];have h9:=BxL.new 39 (w1.alloc (.cells #[.int .i64 wantE.width,.slice ra wantE.chans.length ya,.slice rb wantE.arrays.length yb,.slice rc wantE.funcs.length yc,.slice rd wantE.main.length yd] 27)) [.int .i64 0,.int .i64 0];rw [sA] at h9;exact h9)
 rw [hw2]
 have HB2:=hid (HB1.trans (hb2.mono HB1.size));have HP2:=hid (HP1.below hb2)
 clear hb2 hw2
 go_upto_region 3 with fail
 obtain ⟨w6,hw6⟩:∃ W,(((w2.alloc (.cells #[.string ⟨#[99]⟩] 9)).alloc (.cells #[.string ⟨#[120]⟩,.int .u64 0] 43)).alloc (.cells #[.int .u8 5,.int .u8 0,.string ⟨#[120]⟩,.string ⟨#[99]⟩,.slice none 0 0,.int .i64 4,.int .i64 1,.int .u8 6,.int .u8 0,.string ⟨#[]⟩,.string ⟨#[99]⟩,.slice (some ⟨w2.heap.size+1,0,none⟩) 1 1,.int .i64 5,.int .i64 1] 41)).alloc (.cells #[.int .i64 2,.slice (some ⟨w2.heap.size,0,none⟩) 1 1,.slice none 0 0,.slice none 0 0,.slice (some ⟨w2.heap.size+1+1,0,none⟩) 2 2] 27)=W:=⟨_,rfl⟩
 have hb6:Below w2.heap.size w2 w6:=by rw [<- hw6];exact (((bA).alloc (by simp only [sA];omega) _).alloc (by simp only [sA];omega) _).alloc (by simp only [sA];omega) _
 have HA:=hid (show BxL 9 w2.heap.size [.string ⟨#[99]⟩] w6 from by rw [<- hw6];exact (((BxL.new _ _ _).al _).al _).al _)
 have HG:=hid (show BxL 43 (w2.heap.size+1) [.string ⟨#[120]⟩,.int .u64 0] w6 from by rw [<- hw6];have h9:=BxL.new 43 (w2.alloc (.cells #[.string ⟨#[99]⟩] 9)) [.string ⟨#[120]⟩,.int .u64 0];rw [sA] at h9;exact (h9.al _).al _)
 have HC:=hid (show BxL 41 (w2.heap.size+1+1) ([.int .u8 5,.int .u8 0,.string ⟨#[120]⟩,.string ⟨#[99]⟩,.slice none 0 0,.int .i64 4,.int .i64 1]++[.int .u8 6,.int .u8 0,.string ⟨#[]⟩,.string ⟨#[99]⟩,.slice (some ⟨w2.heap.size+1,0,none⟩) 1 1,.int .i64 5,.int .i64 1]) w6 from by rw [<- hw6];have h9:=BxL.new 41 ((w2.alloc (.cells #[.string ⟨#[99]⟩] 9)).alloc (.cells #[.string ⟨#[120]⟩,.int .u64 0] 43)) ([.int .u8 5,.int .u8 0,.string ⟨#[120]⟩,.string ⟨#[99]⟩,.slice none 0 0,.int .i64 4,.int .i64 1]++[.int .u8 6,.int .u8 0,.string ⟨#[]⟩,.string ⟨#[99]⟩,.slice (some ⟨w2.heap.size+1,0,none⟩) 1 1,.int .i64 5,.int .i64 1]);rw [sA,sA] at h9;exact h9.al _)
 have HD:=hid (show BxL 27 (w2.heap.size+1+1+1) [.int .i64 2,.slice (some ⟨w2.heap.size,0,none⟩) 1 1,.slice none 0 0,.slice none 0 0,.slice (some ⟨w2.heap.size+1+1,0,none⟩) 2 2] w6 from by rw [<- hw6];have h9:=BxL.new 27 (((w2.alloc (.cells #[.string ⟨#[99]⟩] 9)).alloc (.cells #[.string ⟨#[120]⟩,.int .u64 0] 43)).alloc (.cells #[.int .u8 5,.int .u8 0,.string ⟨#[120]⟩,.string ⟨#[99]⟩,.slice none 0 0,.int .i64 4,.int .i64 1,.int .u8 6,.int .u8 0,.string ⟨#[]⟩,.string ⟨#[99]⟩,.slice (some ⟨w2.heap.size+1,0,none⟩) 1 1,.int .i64 5,.int .i64 1] 41)) [.int .i64 2,.slice (some ⟨w2.heap.size,0,none⟩) 1 1,.slice none 0 0,.slice none 0 0,.slice (some ⟨w2.heap.size+1+1,0,none⟩) 2 2];rw [sA,sA,sA] at h9;exact h9)
 rw [hw6]
 have HB6:=hid (HB2.trans (hb6.mono HB2.size));have HP6:=hid (HP2.below hb6);have HX6:=hid (HX2.bel hb6);have HY6:=hid (HY2.bel hb6)
 clear hb6 hw6
 have HPG:=hid (show PgV (·<w6.heap.size) w6 (.slice (some ⟨w2.heap.size,0,none⟩) 1 1) (.slice none 0 0) (.slice none 0 0) (.slice (some ⟨w2.heap.size+1+1,0,none⟩) 2 2) wantE from ⟨SlG.box HA.out rfl HA.lt,SlG.nil,SlG.nil,SlG.box2 HC.out ⟨_,rfl,SlG.nil⟩ ⟨_,rfl,SlG.box HG.out rfl HG.lt⟩ HC.lt⟩)
 have n0:=HX6.at 0 rfl;have n1:=HX6.at 1 rfl;have n2:=HX6.at 2 rfl;have n3:=HX6.at 3 rfl;have n4:=HX6.at 4 rfl
 have m0:=HD.at 0 rfl;have m1:=HD.at 1 rfl;have m2:=HD.at 2 rfl;have m3:=HD.at 3 rfl;have m4:=HD.at 4 rfl
 have HEQ:=hid (show Calls Tryz.prog 16 #[.agg #[.int .i64 2,.slice ra 1 ya,.slice rb 0 yb,.slice rc 0 yc,.slice rd 2 yd],.agg #[.int .i64 2,.slice (some ⟨w2.heap.size,0,none⟩) 1 1,.slice none 0 0,.slice none 0 0,.slice (some ⟨w2.heap.size+1+1,0,none⟩) 2 2]] w6 (fun e w'=>e=.returned (.bool true)/\Below w6.heap.size w6 w') from eqprog_same wantE _ _ _ _ _ _ _ _ w6 HP6.out HPG.out)
 go_upto_region 5 with (go_at_call 16;(with_reducible refine HEQ.out.mono ?_);rintro e wn ⟨rfl,hb⟩;have HB:=hid (HB6.out.trans (hb.mono HB6.out.size));have y0:=(HY6.out.bel hb).at 0 rfl;have y1:=(HY6.out.bel hb).at 1 rfl;have HEn:=hid (HE.out.below HB.out);have HMn:=hid (cB HB.out HM.out);clear hb n0 n1 n2 n3 n4 m0 m1 m2 m3 m4)
 clear y0 y1
 go_wp2_with (go_at_call 30;(first | with_reducible refine (fl_0 m _ HEn.out HMn.out).mono ?_ | with_reducible refine (fl_1 m _ HEn.out HMn.out).mono ?_ | with_reducible refine (fl_2 m _ HEn.out HMn.out).mono ?_ | with_reducible refine (fl_3 m _ HEn.out HMn.out).mono ?_ | with_reducible refine (fl_4 m _ HEn.out HMn.out).mono ?_ | with_reducible refine (fl_5 m _ HEn.out HMn.out).mono ?_ | with_reducible refine (fl_6 m _ HEn.out HMn.out).mono ?_ | with_reducible refine (fl_7 m _ HEn.out HMn.out).mono ?_ | with_reducible refine (fl_8 m _ HEn.out HMn.out).mono ?_ | with_reducible refine (fl_9 m _ HEn.out HMn.out).mono ?_ | with_reducible refine (fl_10 m _ HEn.out HMn.out).mono ?_);rintro e wn ⟨rfl,hb⟩;have HB:=hid (HB.out.trans (hb.mono HB.out.size));have HEn:=hid (HEn.out.below hb);have HMn:=hid (cB hb HMn.out);clear hb)
 go_ret
 exact ⟨rfl,HB.out⟩
theorem rows_le:∀ (f:Nat) (s:Bs),s.length<=f->∀ r ∈ rowsNL s,r.length<=s.length:=by
 intro f
 induction f with
 | zero =>
  intro s hf r hr
  obtain rfl:s=[]:=List.eq_nil_of_length_eq_zero (by omega)
  rw [show rowsNL []=[[]] by rw [rowsNL];rfl,List.mem_singleton] at hr
  rw [hr];exact Nat.le_refl _
 | succ f ih =>
  intro s hf r hr
  obtain ⟨h1,h2⟩:=cutNL_le2 s
  rw [rowsNL] at hr
  rcases List.mem_cons.1 hr with hr | hr
  ·rw [hr];exact h1
  ·split at hr
   ·rename_i hm
    exact Nat.le_trans (ih _ (by have:=cutNL_len s hm;omega) r hr) h2
   ·cases hr
theorem rows_cells (s:Bs):Lib.countB ⟨s.toArray⟩ ⟨#[10]⟩+1=(rowsNL s).length/\(Lib.splitB ⟨#[10]⟩ 0 (Lib.countB ⟨s.toArray⟩ ⟨#[10]⟩) ⟨s.toArray⟩).map Value.string=(rowsNL s).map fun r=>Value.string ⟨r.toArray⟩:=by
 have h0:Lib.countB ⟨s.toArray⟩ ⟨#[10]⟩=s.count 10:=by show Lib.count s [10]=_;rw [Lib.count_one]
 refine ⟨?_,?_⟩
 ·rw [h0,(rows_end s.length s lrf).1];omega
 ·rw [h0]
  have h1:=Lib.splitB_data ⟨#[10]⟩ 0 (s.count 10) ⟨s.toArray⟩
  have h2:(Lib.splitB ⟨#[10]⟩ 0 (s.count 10) ⟨s.toArray⟩).map (·.data.toList)=rowsNL s:=h1.trans (splitK_nl (s.count 10) s lrf)
  have h3:∀ l:List ByteArray,l.map Value.string=(l.map (·.data.toList)).map fun r:Bs=>Value.string ⟨r.toArray⟩:=fun l=>by rw [List.map_map];exact List.map_congr_left fun x _=>by simp
  rw [h3,h2]
theorem split_any (s:Bs) (m:Int) (w:World) (hs:s.length<=65536) (hm:w.cell? ⟨0,0,none⟩=some (.int .i64 m)):Calls Tryz.prog 33 #[.string ⟨s.toArray⟩,.string ⟨#[10]⟩] w fun e w'=>e=.returned (.slice (some ⟨w.heap.size,0,none⟩) (rowsNL s).length (rowsNL s).length)/\BxL 9 w.heap.size ((rowsNL s).map fun r=>Value.string ⟨r.toArray⟩) w'/\Below w.heap.size w w':=by
 refine (Tryz.strings_Split ⟨s.toArray⟩ ⟨#[10]⟩ m w (by show s.length<_;omega) hm (by decide)).mono ?_
 rintro e w' ⟨rfl,rfl⟩
 obtain ⟨h1,h2⟩:=rows_cells s
 rw [h1,h2]
 exact ⟨rfl,BxL.new _ _ _,bA⟩
end Go.Proofs.YtoofbgoeipijcaaGreatDoor
