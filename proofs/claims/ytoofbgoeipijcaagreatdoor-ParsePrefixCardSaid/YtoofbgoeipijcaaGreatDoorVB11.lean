/-
 A part.
-/
import Derived.Test.YtoofbgoeipijcaaGreatDoorVB10
namespace Go.Proofs.YtoofbgoeipijcaaGreatDoor
set_option maxRecDepth 100000
set_option maxHeartbeats 4000000
set_option linter.all false
open Go.RowKit Go.Shelf
attribute [local go_sem] Oper.semAt_some
structure WOk (ws:List Wd):Prop where
 ne:ws ≠ []
 len:ws.length<=65537
 each:∀ x ∈ ws,x.1 ≠ []/\x.1.length<=65537
def fpos (ws:List Wd):Int × Int:=wpos (ws.headD ([],0,0))
abbrev wdV (x:Wd):Value := .agg #[.string ⟨x.1.toArray⟩,.int .i64 (x.2.1:Int),.int .i64 (x.2.2:Int)]
structure Rd (b:Nat) (O:Nat->Value) (wd:Int) (pw:Option Addr) (cw inn step:Nat) (ws:List Wd) (k:Nat) (w:World):Prop where
 box:BxL 106 b (psL O wd (.slice pw ws.length cw) k inn step) w
 row:RowR (·<b) w pw (wflat ws)
def RdP {α:Type} (B b:Nat) (O:Nat->Value) (wd:Int) (pw:Option Addr) (cw inn step:Nat) (ws:List Wd) (V:α->World->Value->Prop) (w:World) (m:PE (α × List Wd)) (e:Ending) (w':World):Prop :=
 Below B w w'/\((∃ f,m=.error f/\e=.panicked (fltP f))\/∃ a k v,m=.ok (a,ws.drop k)/\k<=ws.length/\e=.returned v/\V a w' v/\Rd b O wd pw cw inn step ws k w'/\But (fun i=>i=b) w w')
theorem BxL.but {t:TypeId} {b c:Nat} {cs:List Value} {w w':World} (h:BxL t c cs w) (hb:But (fun i=>i=b) w w') (hc:c ≠ b):BxL t c cs w':=h.keep (hb.block c h.lt hc)
section
variable {B b:Nat} {O:Nat->Value} {wd:Int} {pw:Option Addr} {cw inn step:Nat} {ws:List Wd} {k:Nat} {w w':World}
theorem Rd.below (h:Rd b O wd pw cw inn step ws k w) (hb:Below w.heap.size w w'):Rd b O wd pw cw inn step ws k w':=⟨h.box.bel hb,h.row.keep fun i hi=>⟨hi,hb.block i (Nat.lt_trans hi h.box.lt)⟩⟩
theorem Rd.al (h:Rd b O wd pw cw inn step ws k w) (o:Obj):Rd b O wd pw cw inn step ws k (w.alloc o):=h.below (bA)
theorem Rd.set (h:Rd b O wd pw cw inn step ws k w) (n:Nat):Rd b O wd pw cw inn step ws n (w.setCell ⟨b,6,none⟩ (.int .i64 (n:Int))) :=
 ⟨h.box.set 6 _,h.row.keep fun i hi=>⟨hi,heap_ot (Nat.ne_of_lt hi) _⟩⟩
theorem Rd.other (h:Rd b O wd pw cw inn step ws k w) {c i:Nat} (v:Value) (hc:b<c):Rd b O wd pw cw inn step ws k (w.setCell ⟨c,i,none⟩ v):=⟨h.box.keep (heap_ot (by omega) _),h.row.keep fun j hj=>⟨hj,heap_ot (by omega) _⟩⟩
theorem Rd.at (h:Rd b O wd pw cw inn step ws k w) (hw:0<ws.length):∃ wb off,pw=some ⟨wb,off,none⟩/\wb<w.heap.size/\wb ≠ b/\∀ j (hj:j<ws.length),w.cell? ⟨wb,off+j*3,none⟩=some (.string ⟨ws[j].1.toArray⟩)/\w.cell? ⟨wb,off+j*3+1,none⟩=some (.int .i64 (ws[j].2.1:Int))/\w.cell? ⟨wb,off+j*3+2,none⟩=some (.int .i64 (ws[j].2.2:Int)):=by
 obtain ⟨wb,off,e,hR,hc⟩:=h.row.atW 0 hw
 exact ⟨wb,off,e,Nat.lt_trans hR h.box.lt,Nat.ne_of_lt hR,hc⟩
end
theorem WOk.pos {ws:List Wd} (h:WOk ws):0<ws.length:=List.length_pos_iff.2 h.ne
theorem But.al {F:Nat->Prop} {w w':World} (h:But F w w') (o:Obj):But F w (w'.alloc o):=h.trans (But.of_below F ((Below.refl _ _).alloc lrf o))
theorem But.setC {F:Nat->Prop} {w w':World} (h:But F w w') {c i:Nat} (v:Value) (hc:F c\/w.heap.size<=c):But F w (w'.setCell ⟨c,i,none⟩ v) :=
 ⟨h.os,h.tape,h.output,by simp only [World.size_setCell];exact h.size,fun k hk hF=>by
  rw [heap_ot (fun e=>by subst e;rcases hc with hc | hc;exact hF hc;omega)];exact h.block k hk hF⟩
theorem But.dr {F:Nat->Prop} {w w':World} (h:But F w w'):But F w w'.drew:=h.trans (But.of_below F (Below.refl _ _).drew)
theorem first_any {b:Nat} {O:Nat->Value} {wd:Int} {pw:Option Addr} {cw inn step:Nat} {ws:List Wd} {k:Nat} {w:World} (hd:Rd b O wd pw cw inn step ws k w) (hw:WOk ws):Calls Tryz.prog 178 #[.pointer (some ⟨b,0,none⟩)] w fun e w'=>e=.returned (posV (fpos ws))/\Below w.heap.size w w':=by
 obtain ⟨wb,off,rfl,hwb,hne,hc⟩:=hd.at hw.pos
 have h0:=hc 0 hw.pos
 have HF:=hid (show fpos ws=(((ws[0]'hw.pos).2.1:Int),((ws[0]'hw.pos).2.2:Int)) from by
  have:=hw.pos
  cases ws with
  | nil=>simp at this
  | cons x r=>rfl)
 obtain ⟨x,hx⟩:∃ x,ws[0]'hw.pos=x:=⟨_,rfl⟩
 rw [hx] at h0 HF
 obtain ⟨h0,h1,h2⟩:=h0
 rw [show off+0*3=off from by omega] at h0 h1 h2
 have c5:=hd.box.at 5 rfl
 have hl:=hw.pos
 have hsz:b<w.heap.size:=hd.box.lt
 have HB:=hid hd.box
 clear hd hc hx hw
 obtain ⟨L,hL⟩:∃ L,ws.length=L:=⟨_,rfl⟩
 rw [hL] at c5 hl
 clear hL
 have a1:∀ c t,(w.alloc (.cells c t)).cell? ⟨b,5,none⟩=some (.slice (some ⟨wb,off,none⟩) L cw):=fun c t=>by rw [cell_al,if_neg (by show b ≠ _;omega)];exact c5
 have a2:∀ c t,(w.alloc (.cells c t)).cell? ⟨wb,off+1,none⟩=some (.int .i64 (x.2.1:Int)):=fun c t=>by rw [cell_al,if_neg (by show wb ≠ _;omega)];exact h1
 have a3:∀ c t,(w.alloc (.cells c t)).cell? ⟨wb,off+2,none⟩=some (.int .i64 (x.2.2:Int)):=fun c t=>by rw [cell_al,if_neg (by show wb ≠ _;omega)];exact h2
 go_enter Tryz.func178,Tryz.ntmps178
 go_wp2
 refine bodyPost_ret (v:=posV ((x.2.1:Int),(x.2.2:Int))) (by simp [results,Tryz.results178,go_sem]) rfl ?_
 exact ⟨by rw [HF.out],(bA)⟩
theorem next_any {B b:Nat} {O:Nat->Value} {wd:Int} {pw:Option Addr} {cw inn step:Nat} {ws:List Wd} {k:Nat} {w:World} (hd:Rd b O wd pw cw inn step ws k w) (hk:k<=ws.length) (hw:WOk ws) (hB:B<=b):Calls Tryz.prog 144 #[.pointer (some ⟨b,0,none⟩)] w (RdP B b O wd pw cw inn step ws (fun a _ v=>v=wdV a) w (nextP (fpos ws) (ws.drop k))):=by
 obtain ⟨wb,off,rfl,hwb,hne,hc⟩:=hd.at hw.pos
 have HD:=hid hd;have HW:=hid hw;have HBB:=hid hB;have HLE:=hid hk;have HSZ:=hid hd.box.lt
 have c5:=hd.box.at 5 rfl
 have c6:=hd.box.at 6 rfl
 clear hd hw hB hk hc
 go_enter Tryz.func144,Tryz.ntmps144
 go_upto_region 1 with fail
 obtain ⟨w1,hw1⟩:∃ W,w.alloc (.cells #[.string ⟨#[]⟩,.int .i64 0,.int .i64 0] 128)=W:=⟨_,rfl⟩
 have hD1:Rd b O wd (some ⟨wb,off,none⟩) cw inn step ws k w1:=by rw [<- hw1];exact HD.al _
 have hX1:BxL 128 w.heap.size [.string ⟨#[]⟩,.int .i64 0,.int .i64 0] w1:=by rw [<- hw1];exact BxL.new _ _ _
 have hB1:Below w.heap.size w w1:=by rw [<- hw1];exact bA
 rw [hw1]
 clear hw1 c5 c6
 have hS:(fun W=>W.cell? ⟨b,5,none⟩=some (.slice (some ⟨wb,off,none⟩) ws.length cw)/\W.cell? ⟨b,6,none⟩=some (.int .i64 (k:Int))) w1.drew:=⟨hD1.box.at 5 rfl,hD1.box.at 6 rfl⟩
 have HD1:=hid hD1;have HX1:=hid hX1;have HB1:=hid hB1
 clear hD1 hX1 hB1
 have hFa:=fT
 refine rgP (fun _ _ _ h=>h) (fun W=>W.cell? ⟨b,5,none⟩=some (.slice (some ⟨wb,off,none⟩) ws.length cw)/\W.cell? ⟨b,6,none⟩=some (.int .i64 (k:Int))) 13 (by kernel_rfl) ?_
 simp only [zP,Nat.reduceAdd]
 iterate 11 (refine nxW (v:=?_) 13 hS ?_ ?_;rotate_left;(focus rintro w' ⟨s0,s1⟩;go_simp;try rfl);simp only [aP])
 refine oy 11 fun K hK=>?_
 go_simp
 (with_reducible refine (callsIn_wide.2 (first_any (HD1.out.below (Below.refl _ _).drew) HW.out)).mono ?_)
 rintro e wf ⟨rfl,hbf⟩
 have HBF:=hid (HB1.drew.trans (hbf.mono HB1.size))
 have HDF:=hid ((HD1.below (Below.refl _ _).drew).below hbf)
 have HXF:=hid ((HX1.bel (Below.refl _ _).drew).bel hbf)
 clear hbf
 have hSf:(fun W=>W.cell? ⟨b,5,none⟩=some (.slice (some ⟨wb,off,none⟩) ws.length cw)/\W.cell? ⟨b,6,none⟩=some (.int .i64 (k:Int))) wf:=⟨HDF.box.at 5 rfl,HDF.box.at 6 rfl⟩
 refine hK _ _ (.inr (.inr hSf)) ?_
 clear hK K
 refine oy 12 fun K hK=>?_
 go_simp
 (with_reducible refine (callsIn_wide.2 (pneed_any _ _ _ _)).mono ?_)
 rintro e wn ⟨hbn,⟨hc,rfl⟩ | ⟨hc,rfl⟩⟩
 rotate_left
 ·refine ⟨rfl,((HBF.trans (hbn.mono HBF.size)).mono (Nat.le_of_lt (Nat.lt_of_le_of_lt HBB.out HSZ.out))),.inl ⟨_,?_,rfl⟩⟩
  rw [List.drop_eq_nil_of_le (by simpa using hc)];rfl
 have HBN:=hid (HBF.trans (hbn.mono HBF.size))
 have HDN:=hid (HDF.below hbn)
 have HXN:=hid (HXF.bel hbn)
 have hlt:k<ws.length:=by simpa using hc
 clear hbn hc
 have hSn:(fun W=>W.cell? ⟨b,5,none⟩=some (.slice (some ⟨wb,off,none⟩) ws.length cw)/\W.cell? ⟨b,6,none⟩=some (.int .i64 (k:Int))) wn:=⟨HDN.box.at 5 rfl,HDN.box.at 6 rfl⟩
 refine hK _ _ (.inr (.inr hSn)) (dN ?_)
 clear hK K
 simp only [onlyP,Exit.then]
 clear hFa
 have c6:=HDN.box.at 6 rfl
 have f6:=HDN.box.fr 6
 have a1:=wrap_next hlt (by have:=HW.len;omega)
 have HLT:=hid hlt
 clear hlt hSn
 go_upto_region 3 with fail
 obtain ⟨w2,hw2⟩:∃ W,wn.setCell ⟨b,6,none⟩ (.int .i64 ((k:Int)+1))=W:=⟨_,rfl⟩
 have HD2:=hid (show Rd b O wd (some ⟨wb,off,none⟩) cw inn step ws (k+1) w2 from by rw [<- hw2];exact HDN.set (k+1))
 have HN2:=hid (show But (fun i=>i=b) w w2 from by rw [<- hw2];exact (But.of_below _ HBN.out).setC _ (.inl rfl))
 have HX2:=hid (show BxL 128 w.heap.size [.string ⟨#[]⟩,.int .i64 0,.int .i64 0] w2 from by rw [<- hw2];exact HXN.keep (heap_ot (by have:=HSZ.out;omega) _))
 rw [hw2]
 clear hw2 c6 f6 a1
 obtain ⟨wb',off',e,hwb2,_,hc⟩:=HD2.at HW.pos
 cases e
 obtain ⟨x,hx⟩:∃ x,ws[k]'HLT.out=x:=⟨_,rfl⟩
 have h0:=hc k HLT.out
 rw [hx] at h0
 obtain ⟨h0,h1,h2⟩:=h0
 have HMX:=hid (show ws.drop k=x :: ws.drop (k+1) from by rw [<- hx];exact List.drop_eq_getElem_cons HLT.out)
 have hS:(fun W=>W.cell? ⟨b,5,none⟩=some (.slice (some ⟨wb,off,none⟩) ws.length cw)/\W.cell? ⟨b,6,none⟩=some (.int .i64 ((k:Int)+1))/\W.cell? ⟨wb,off+k*3,none⟩=some (.string ⟨x.1.toArray⟩)/\W.cell? ⟨wb,off+k*3+1,none⟩=some (.int .i64 (x.2.1:Int))/\W.cell? ⟨wb,off+k*3+2,none⟩=some (.int .i64 (x.2.2:Int))) w2.drew:=⟨HD2.box.at 5 rfl,HD2.box.at 6 rfl,h0,h1,h2⟩
 have t0:=HX2.fr 0
 have t1:=HX2.fr 1
 have t2:=HX2.fr 2
 obtain ⟨t3,t4,t5⟩:=HX2.p3
 clear hc hx h0 h1 h2
 have hlt:=HLT.out
 have wk:IntKind.i64.wrap (k:Int)=(k:Int):=IntWalk.i64_in _ (by have:=HW.len;omega)
 have hFa:=fT
 refine rgN (fun W=>W.cell? ⟨b,5,none⟩=some (.slice (some ⟨wb,off,none⟩) ws.length cw)/\W.cell? ⟨b,6,none⟩=some (.int .i64 ((k:Int)+1))/\W.cell? ⟨wb,off+k*3,none⟩=some (.string ⟨x.1.toArray⟩)/\W.cell? ⟨wb,off+k*3+1,none⟩=some (.int .i64 (x.2.1:Int))/\W.cell? ⟨wb,off+k*3+2,none⟩=some (.int .i64 (x.2.2:Int))) 11 (by kernel_rfl) ?_
 simp only [zP,Nat.reduceAdd]
 iterate 11 (refine nxW (v:=?_) 12 hS ?_ ?_;rotate_left;(focus rintro w' ⟨s0,s1,s2,s3,s4⟩;go_simp;try rfl);simp only [aP])
 refine oy 11 fun K hK=>?_
 go_simp
 refine hK _ _ (.inl rfl) (dN ?_)
 clear hK K
 simp only [onlyN,Exit.then]
 clear hFa
 have e0:∀ i,i<3->True:=fun _ _=>trivial
 generalize hw3:World.setCell _ _ _=w3
 have hX3:BxL 128 w.heap.size [.string ⟨x.1.toArray⟩,.int .i64 (x.2.1:Int),.int .i64 (x.2.2:Int)] w3:=by rw [<- hw3];exact ((HX2.set 0 _).set 1 _).set 2 _
 have hD3:Rd b O wd (some ⟨wb,off,none⟩) cw inn step ws (k+1) w3:=by rw [<- hw3];exact ((HD2.other _ HSZ.out).other _ HSZ.out).other _ HSZ.out
 have hN3:But (fun i=>i=b) w w3:=by rw [<- hw3];exact ((HN2.setC _ (.inr lrf)).setC _ (.inr lrf)).setC _ (.inr lrf)
 clear hw3 hS
 have HD3:=hid hD3;have HN3:=hid hN3
 obtain ⟨g0,g1,g2⟩:=hX3.p3
 clear hD3 hN3 hX3 t0 t1 t2 t3 t4 t5
 go_wp2_with fail
 refine bodyPost_ret (v:=wdV x) (by simp [results,Tryz.results144,go_sem,wdV,g0,g1,g2]) rfl ?_
 have hb3:Below B w w3:=HN3.below (Nat.le_of_lt (Nat.lt_of_le_of_lt HBB.out HSZ.out)) (fun i e=>e ▸ HBB.out)
 refine ⟨by first | exact hb3.drew | exact hb3,.inr ⟨x,k+1,_,by rw [HMX.out];rfl,HLT.out,rfl,rfl,by first | exact HD3.out | exact HD3.below (Below.refl _ _).drew,by first | exact HN3.out | exact HN3.dr⟩⟩
theorem pname_any {B b:Nat} {O:Nat->Value} {wd:Int} {pw:Option Addr} {cw inn step:Nat} {ws:List Wd} {k:Nat} {w:World} (hd:Rd b O wd pw cw inn step ws k w) (hk:k<=ws.length) (hw:WOk ws) (hB:B<=b):Calls Tryz.prog 198 #[.pointer (some ⟨b,0,none⟩)] w (RdP B b O wd pw cw inn step ws (fun a _ v=>v=wdV a) w (nameP (fpos ws) (ws.drop k))):=by
 have HD:=hid hd;have HW:=hid hw;have HBB:=hid hB;have HLE:=hid hk;have HSZ:=hid hd.box.lt
 have HBZ:=hid (show B<=w.heap.size from Nat.le_of_lt (Nat.lt_of_le_of_lt hB hd.box.lt))
 clear hd hw hB hk
 go_enter Tryz.func198,Tryz.ntmps198
 go_upto_region 2 with (go_at_call 144;(with_reducible refine (next_any (HD.out.al _) HLE.out HW.out HBB.out).mono ?_);rintro e w1 ⟨hb,⟨f1,hm,rfl⟩ | ⟨a,k1,v,hm,hk,rfl,hv,hd,hn⟩⟩;(focus (exact ⟨rfl,((But.of_below (fun i=>i=b) ((Below.refl _ _).alloc (Nat.le_refl w.heap.size) (.cells #[.string ⟨#[]⟩,.int .i64 0,.int .i64 0] 128))).below HBZ.out (fun i e=>e ▸ HBB.out)).trans hb,.inl ⟨f1,by unfold nameP;rw [hm];rfl,rfl⟩⟩));obtain rfl:v=.agg #[.string ⟨a.1.toArray⟩,.int .i64 (a.2.1:Int),.int .i64 (a.2.2:Int)]:=hv)
 have HN1:=hid ((But.of_below (fun i=>i=b) ((Below.refl _ _).alloc (Nat.le_refl w.heap.size) (.cells #[.string ⟨#[]⟩,.int .i64 0,.int .i64 0] 128))).trans hn)
 have HR1:=hid ((BxL.new 128 w [.string ⟨#[]⟩,.int .i64 0,.int .i64 0]).but hn (by have:=HSZ.out;omega))
 have HM:=hid hm;have HK1:=hid hk
 clear hb hm hk hn
 generalize hw3:World.alloc w1 _=w3
 have hX3:BxL 128 w1.heap.size [.string ⟨a.1.toArray⟩,.int .i64 (a.2.1:Int),.int .i64 (a.2.2:Int)] w3:=by rw [<- hw3];exact BxL.new _ _ _
 have HD3:=hid (show Rd b O wd pw cw inn step ws k1 w3 from by rw [<- hw3];exact hd.al _)
 have HN3:=hid (show But (fun i=>i=b) w w3 from by rw [<- hw3];exact HN1.al _)
 have HR3:=hid (show BxL 128 w.heap.size [.string ⟨#[]⟩,.int .i64 0,.int .i64 0] w3 from by rw [<- hw3];exact HR1.al _)
 clear hw3 hd
 generalize hq:w1.heap.size=q at hX3 ⊢
 have HX3:=hid hX3
 have HQ:=hid (show w.heap.size<=q from by rw [<- hq];exact HN1.size)
 clear hq
 have hS:(fun W=>W.cell? ⟨q,0,none⟩=some (.string ⟨a.1.toArray⟩)/\W.cell? ⟨q,1,none⟩=some (.int .i64 (a.2.1:Int))/\W.cell? ⟨q,2,none⟩=some (.int .i64 (a.2.2:Int))) w3.drew:=hX3.p3
 clear hX3
 have hFa:=fT
 refine rgP (fun _ _ _ h=>h) (fun W=>W.cell? ⟨q,0,none⟩=some (.string ⟨a.1.toArray⟩)/\W.cell? ⟨q,1,none⟩=some (.int .i64 (a.2.1:Int))/\W.cell? ⟨q,2,none⟩=some (.int .i64 (a.2.2:Int))) 6 (by kernel_rfl) ?_
 simp only [zP,Nat.reduceAdd]
 iterate 2 (refine nxW (v:=?_) 6 hS ?_ ?_;rotate_left;(focus rintro w' ⟨s0,s1,s2⟩;go_simp;try rfl);simp only [aP])
 iterate 2 (refine nxW (v:=?_) 7 hS ?_ ?_;rotate_left;(focus rintro w' ⟨s0,s1,s2⟩;go_simp;try rfl);simp only [aP])
 refine oy 2 fun K hK=>?_
 go_simp
 (with_reducible refine (callsIn_wide.2 (pnamed_any a.1 _)).mono ?_)
 rintro e w4 ⟨rfl,hb⟩
 have HD4:=hid ((HD3.below (Below.refl _ _).drew).below hb)
 have HN4:=hid (HN3.dr.trans (But.of_below _ hb))
 have HR4:=hid ((HR3.bel (Below.refl _ _).drew).bel hb)
 have HX4:=hid ((HX3.bel (Below.refl _ _).drew).bel hb)
 have hS4:(fun W=>W.cell? ⟨q,0,none⟩=some (.string ⟨a.1.toArray⟩)/\W.cell? ⟨q,1,none⟩=some (.int .i64 (a.2.1:Int))/\W.cell? ⟨q,2,none⟩=some (.int .i64 (a.2.2:Int))) w4:=HX4.p3
 clear hb hS
 refine hK _ _ (.inr (.inr hS4)) ?_
 clear hK K
 refine oy 5 fun K hK=>?_
 go_simp
 (with_reducible refine (callsIn_wide.2 (pneed_any _ ((a.2.1:Int),(a.2.2:Int)) _ _)).mono ?_)
 rintro e w5 ⟨hb,⟨hc,rfl⟩ | ⟨hc,rfl⟩⟩
 rotate_left
 ·exact ⟨rfl,(HN4.trans (But.of_below _ hb)).below HBZ.out (fun i e=>e ▸ HBB.out),.inl ⟨_,by unfold nameP;rw [HM.out];simp only [bind,Except.bind];rw [hc];rfl,rfl⟩⟩
 have HC5:=hid hc
 have HD5:=hid (HD4.below hb)
 have HN5:=hid (HN4.trans (But.of_below _ hb))
 have HR5:=hid (HR4.bel hb)
 have HX5:=hid (HX4.bel hb)
 have hS5:(fun W=>W.cell? ⟨q,0,none⟩=some (.string ⟨a.1.toArray⟩)/\W.cell? ⟨q,1,none⟩=some (.int .i64 (a.2.1:Int))/\W.cell? ⟨q,2,none⟩=some (.int .i64 (a.2.2:Int))) w5:=HX5.p3
 clear hb hc hS4
 refine hK _ _ (.inr (.inr hS5)) (dN ?_)
 clear hK K
 simp only [onlyP,Exit.then]
 clear hFa
 clear hS5
 obtain ⟨n0,n1,n2⟩:=HX5.p3
 obtain ⟨t0,t1,t2⟩:=HR5.p3
 have f0:=HR5.fr 0
 have f1:=HR5.fr 1
 have f2:=HR5.fr 2
 go_wp2_with fail
 generalize hw9:World.setCell _ _ _=w9
 have hX9:BxL 128 w.heap.size [.string ⟨a.1.toArray⟩,.int .i64 (a.2.1:Int),.int .i64 (a.2.2:Int)] w9:=by rw [<- hw9];exact (((HR5.set 0 _).set 1 _).set 2 _)
 have hD9:Rd b O wd pw cw inn step ws k1 w9:=by rw [<- hw9];exact (((HD5.other _ HSZ.out).other _ HSZ.out).other _ HSZ.out)
 have hN9:But (fun i=>i=b) w w9:=by rw [<- hw9];exact (((HN5.setC _ (.inr lrf)).setC _ (.inr lrf)).setC _ (.inr lrf))
 clear hw9
 obtain ⟨g0,g1,g2⟩:=hX9.p3
 refine bodyPost_ret (v := .agg #[.string ⟨a.1.toArray⟩,.int .i64 (a.2.1:Int),.int .i64 (a.2.2:Int)]) (by simp [results,Tryz.results198,go_sem,g0,g1,g2]) rfl ?_
 exact ⟨hN9.below HBZ.out (fun i e=>e ▸ HBB.out),.inr ⟨a,k1,_,by unfold nameP;rw [HM.out];simp only [bind,Except.bind];rw [HC5.out];rfl,HK1.out,rfl,rfl,hD9,hN9⟩⟩
theorem pfresh_any {B b:Nat} {O:Nat->Value} {wd:Int} {pw:Option Addr} {cw inn step:Nat} {ws:List Wd} {k:Nat} {w:World} {R:Nat->Prop} {had:List Bs} {hv:Value} (hd:Rd b O wd pw cw inn step ws k w) (hk:k<=ws.length) (hw:WOk ws) (hB:B<=b) (hh:SlG kStr R w hv had) (hR:∀ i,R i->i<w.heap.size/\i ≠ b):Calls Tryz.prog 214 #[.pointer (some ⟨b,0,none⟩),hv] w (RdP B b O wd pw cw inn step ws (fun s _ v=>v=.string ⟨s.toArray⟩) w (freshP (fpos ws) had (ws.drop k))):=by
 have HH:=hid hh;have HRR:=hid hR
 clear hh hR
 have HD:=hid hd;have HW:=hid hw;have HBB:=hid hB;have HLE:=hid hk;have HSZ:=hid hd.box.lt
 have HBZ:=hid (show B<=w.heap.size from Nat.le_of_lt (Nat.lt_of_le_of_lt hB hd.box.lt))
 clear hd hw hB hk
 go_enter Tryz.func214,Tryz.ntmps214
 go_upto_region 2 with (go_at_call 198;(with_reducible refine (pname_any HD.out HLE.out HW.out HBB.out).mono ?_);rintro e w1 ⟨hb,⟨f1,hm,rfl⟩ | ⟨a,k1,v,hm,hk,rfl,hv,hd,hn⟩⟩;(focus (exact ⟨rfl,((But.refl (fun i=>i=b) w).below HBZ.out (fun i e=>e ▸ HBB.out)).trans hb,.inl ⟨f1,by unfold freshP;rw [hm];rfl,rfl⟩⟩));obtain rfl:v=.agg #[.string ⟨a.1.toArray⟩,.int .i64 (a.2.1:Int),.int .i64 (a.2.2:Int)]:=hv)
 have HN1:=hid ((But.refl (fun i=>i=b) w).trans hn)
 have HM:=hid hm;have HK1:=hid hk
 clear hb hm hk hn
 generalize hw3:World.alloc w1 _=w3
 have hX3:BxL 128 w1.heap.size [.string ⟨a.1.toArray⟩,.int .i64 (a.2.1:Int),.int .i64 (a.2.2:Int)] w3:=by rw [<- hw3];exact BxL.new _ _ _
 have HD3:=hid (show Rd b O wd pw cw inn step ws k1 w3 from by rw [<- hw3];exact hd.al _)
 have HN3:=hid (show But (fun i=>i=b) w w3 from by rw [<- hw3];exact HN1.al _)
 clear hw3 hd
 generalize hq:w1.heap.size=q at hX3 ⊢
 have HX3:=hid hX3
 have HQ:=hid (show w.heap.size<=q from by rw [<- hq];exact HN1.size)
 clear hq
 have hS:(fun W=>W.cell? ⟨q,0,none⟩=some (.string ⟨a.1.toArray⟩)/\W.cell? ⟨q,1,none⟩=some (.int .i64 (a.2.1:Int))/\W.cell? ⟨q,2,none⟩=some (.int .i64 (a.2.2:Int))) w3.drew:=hX3.p3
 have HH3:=hid (show SlG kStr R w3.drew hv had from HH.keep fun i hi=>⟨hi,HN3.block i (HRR.out i hi).1 (HRR.out i hi).2⟩)
 obtain ⟨bc,hbc⟩:∃ c,had.contains a.1=c:=⟨_,rfl⟩
 have HBC:=hid hbc
 clear hX3 hbc
 have hFa:=fT
 refine rgP (fun _ _ _ h=>h) (fun W=>W.cell? ⟨q,0,none⟩=some (.string ⟨a.1.toArray⟩)/\W.cell? ⟨q,1,none⟩=some (.int .i64 (a.2.1:Int))/\W.cell? ⟨q,2,none⟩=some (.int .i64 (a.2.2:Int))) 8 (by kernel_rfl) ?_
 simp only [zP,Nat.reduceAdd]
 iterate 3 (refine nxW (v:=?_) 8 hS ?_ ?_;rotate_left;(focus rintro w' ⟨s0,s1,s2⟩;go_simp;try rfl);simp only [aP])
 iterate 2 (refine nxW (v:=?_) 10 hS ?_ ?_;rotate_left;(focus rintro w' ⟨s0,s1,s2⟩;go_simp;try rfl);simp only [aP])
 refine oy 3 fun K hK=>?_
 go_simp
 (with_reducible refine (callsIn_wide.2 (contains_any had a.1 _ _ _ HH3.out)).mono ?_)
 rintro e w4 ⟨rfl,rfl⟩
 rw [HBC.out]
 refine hK _ _ (.inr (.inr hS)) ?_
 clear hK K
 (refine nxW (v:=?_) 6 hS ?_ ?_;rotate_left;(focus rintro w' ⟨s0,s1,s2⟩;go_simp;try rfl);simp only [aP])
 refine oy 7 fun K hK=>?_
 go_simp
 (with_reducible refine (callsIn_wide.2 (pneed_any _ ((a.2.1:Int),(a.2.2:Int)) _ _)).mono ?_)
 rintro e w5 ⟨hb,⟨hc,rfl⟩ | ⟨hc,rfl⟩⟩
 rotate_left
 ·exact ⟨rfl,(HN3.dr.trans (But.of_below _ hb)).below HBZ.out (fun i e=>e ▸ HBB.out),.inl ⟨_,by unfold freshP;rw [HM.out];simp only [bind,Except.bind];rw [HBC.out,hc];rfl,rfl⟩⟩
 have HC5:=hid hc
 have HD5:=hid ((HD3.below (Below.refl _ _).drew).below hb)
 have HN5:=hid (HN3.dr.trans (But.of_below _ hb))
 have HX5:=hid ((HX3.bel (Below.refl _ _).drew).bel hb)
 have hS5:(fun W=>W.cell? ⟨q,0,none⟩=some (.string ⟨a.1.toArray⟩)/\W.cell? ⟨q,1,none⟩=some (.int .i64 (a.2.1:Int))/\W.cell? ⟨q,2,none⟩=some (.int .i64 (a.2.2:Int))) w5:=HX5.p3
 clear hb hc hS
 refine hK _ _ (.inr (.inr hS5)) (dN ?_)
 clear hK K
 simp only [onlyP,Exit.then]
 clear hFa
 clear hS5
 obtain ⟨n0,n1,n2⟩:=HX5.p3
 go_wp2_with fail
 go_ret
 exact ⟨HN5.below HBZ.out (fun i e=>e ▸ HBB.out),.inr ⟨a.1,k1,_,by unfold freshP;rw [HM.out];simp only [bind,Except.bind];rw [HBC.out,HC5.out];rfl,HK1.out,rfl,rfl,HD5.out,HN5.out⟩⟩
theorem pknown_any {B b:Nat} {O:Nat->Value} {wd:Int} {pw:Option Addr} {cw inn step:Nat} {ws:List Wd} {k:Nat} {w:World} {R:Nat->Prop} {had:List Bs} {hv:Value} (hd:Rd b O wd pw cw inn step ws k w) (hk:k<=ws.length) (hw:WOk ws) (hB:B<=b) (hh:SlG kStr R w hv had) (hR:∀ i,R i->i<w.heap.size/\i ≠ b):Calls Tryz.prog 195 #[.pointer (some ⟨b,0,none⟩),hv] w (RdP B b O wd pw cw inn step ws (fun s _ v=>v=.string ⟨s.toArray⟩) w (knownP (fpos ws) had (ws.drop k))):=by
 have HH:=hid hh;have HRR:=hid hR
 clear hh hR
 have HD:=hid hd;have HW:=hid hw;have HBB:=hid hB;have HLE:=hid hk;have HSZ:=hid hd.box.lt
 have HBZ:=hid (show B<=w.heap.size from Nat.le_of_lt (Nat.lt_of_le_of_lt hB hd.box.lt))
 clear hd hw hB hk
 go_enter Tryz.func195,Tryz.ntmps195
 go_upto_region 2 with (go_at_call 198;(with_reducible refine (pname_any HD.out HLE.out HW.out HBB.out).mono ?_);rintro e w1 ⟨hb,⟨f1,hm,rfl⟩ | ⟨a,k1,v,hm,hk,rfl,hv,hd,hn⟩⟩;(focus (exact ⟨rfl,((But.refl (fun i=>i=b) w).below HBZ.out (fun i e=>e ▸ HBB.out)).trans hb,.inl ⟨f1,by unfold knownP;rw [hm];rfl,rfl⟩⟩));obtain rfl:v=.agg #[.string ⟨a.1.toArray⟩,.int .i64 (a.2.1:Int),.int .i64 (a.2.2:Int)]:=hv)
 have HN1:=hid ((But.refl (fun i=>i=b) w).trans hn)
 have HM:=hid hm;have HK1:=hid hk
 clear hb hm hk hn
 generalize hw3:World.alloc w1 _=w3
 have hX3:BxL 128 w1.heap.size [.string ⟨a.1.toArray⟩,.int .i64 (a.2.1:Int),.int .i64 (a.2.2:Int)] w3:=by rw [<- hw3];exact BxL.new _ _ _
 have HD3:=hid (show Rd b O wd pw cw inn step ws k1 w3 from by rw [<- hw3];exact hd.al _)
 have HN3:=hid (show But (fun i=>i=b) w w3 from by rw [<- hw3];exact HN1.al _)
 clear hw3 hd
 generalize hq:w1.heap.size=q at hX3 ⊢
 have HX3:=hid hX3
 have HQ:=hid (show w.heap.size<=q from by rw [<- hq];exact HN1.size)
 clear hq
 have hS:(fun W=>W.cell? ⟨q,0,none⟩=some (.string ⟨a.1.toArray⟩)/\W.cell? ⟨q,1,none⟩=some (.int .i64 (a.2.1:Int))/\W.cell? ⟨q,2,none⟩=some (.int .i64 (a.2.2:Int))) w3.drew:=hX3.p3
 have HH3:=hid (show SlG kStr R w3.drew hv had from HH.keep fun i hi=>⟨hi,HN3.block i (HRR.out i hi).1 (HRR.out i hi).2⟩)
 obtain ⟨bc,hbc⟩:∃ c,had.contains a.1=c:=⟨_,rfl⟩
 have HBC:=hid hbc
 clear hX3 hbc
 have hFa:=fT
 refine rgP (fun _ _ _ h=>h) (fun W=>W.cell? ⟨q,0,none⟩=some (.string ⟨a.1.toArray⟩)/\W.cell? ⟨q,1,none⟩=some (.int .i64 (a.2.1:Int))/\W.cell? ⟨q,2,none⟩=some (.int .i64 (a.2.2:Int))) 7 (by kernel_rfl) ?_
 simp only [zP,Nat.reduceAdd]
 iterate 3 (refine nxW (v:=?_) 7 hS ?_ ?_;rotate_left;(focus rintro w' ⟨s0,s1,s2⟩;go_simp;try rfl);simp only [aP])
 iterate 2 (refine nxW (v:=?_) 8 hS ?_ ?_;rotate_left;(focus rintro w' ⟨s0,s1,s2⟩;go_simp;try rfl);simp only [aP])
 refine oy 3 fun K hK=>?_
 go_simp
 (with_reducible refine (callsIn_wide.2 (contains_any had a.1 _ _ _ HH3.out)).mono ?_)
 rintro e w4 ⟨rfl,rfl⟩
 rw [HBC.out]
 refine hK _ _ (.inr (.inr hS)) ?_
 clear hK K
 refine oy 6 fun K hK=>?_
 go_simp
 (with_reducible refine (callsIn_wide.2 (pneed_any _ ((a.2.1:Int),(a.2.2:Int)) _ _)).mono ?_)
 rintro e w5 ⟨hb,⟨hc,rfl⟩ | ⟨hc,rfl⟩⟩
 rotate_left
 ·exact ⟨rfl,(HN3.dr.trans (But.of_below _ hb)).below HBZ.out (fun i e=>e ▸ HBB.out),.inl ⟨_,by unfold knownP;rw [HM.out];simp only [bind,Except.bind];rw [HBC.out,hc];rfl,rfl⟩⟩
 have HC5:=hid hc
 have HD5:=hid ((HD3.below (Below.refl _ _).drew).below hb)
 have HN5:=hid (HN3.dr.trans (But.of_below _ hb))
 have HX5:=hid ((HX3.bel (Below.refl _ _).drew).bel hb)
 have hS5:(fun W=>W.cell? ⟨q,0,none⟩=some (.string ⟨a.1.toArray⟩)/\W.cell? ⟨q,1,none⟩=some (.int .i64 (a.2.1:Int))/\W.cell? ⟨q,2,none⟩=some (.int .i64 (a.2.2:Int))) w5:=HX5.p3
 clear hb hc hS
 refine hK _ _ (.inr (.inr hS5)) (dN ?_)
 clear hK K
 simp only [onlyP,Exit.then]
 clear hFa
 clear hS5
 obtain ⟨n0,n1,n2⟩:=HX5.p3
 go_wp2_with fail
 go_ret
 exact ⟨HN5.below HBZ.out (fun i e=>e ▸ HBB.out),.inr ⟨a.1,k1,_,by unfold knownP;rw [HM.out];simp only [bind,Except.bind];rw [HBC.out,HC5.out];rfl,HK1.out,rfl,rfl,HD5.out,HN5.out⟩⟩
end Go.Proofs.YtoofbgoeipijcaaGreatDoor
