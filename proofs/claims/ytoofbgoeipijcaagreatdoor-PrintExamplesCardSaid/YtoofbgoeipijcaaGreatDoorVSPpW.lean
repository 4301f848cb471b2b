/-
 A part.
-/
import Derived.Test.YtoofbgoeipijcaaGreatDoorVSPpB
namespace Go.Proofs.YtoofbgoeipijcaaGreatDoor
set_option maxRecDepth 100000
set_option maxHeartbeats 8000000
set_option linter.all false
open Go.RowKit Go.Shelf
attribute [local go_sem] Oper.semAt_some
def hdL (p:Pg):List Bs:=[jn [wWidth,Lib.itoa p.width]]
def fC (c:Bs):Bs:=jn [wChan,c]
def fA (a:Ar):Bs:=jn [wArray,a.nm,Lib.itoa a.size]
def hdF (f:Fu):Bs:=jn (wFunc :: f.nm :: f.params)
def L1 (p:Pg):List Bs:=hdL p++p.chans.map fC
def L2 (p:Pg):List Bs:=L1 p++p.arrays.map fA
def L3 (p:Pg):List Bs:=L2 p++p.funcs.flatMap funcT
def L4 (p:Pg):List Bs:=L3 p++[wMain]
def L5 (p:Pg):List Bs:=L4 p++p.main.map lineM
theorem lines_L5 (p:Pg):linesT p=L5 p++[wEnd]:=by
 unfold linesT L5 L4 L3 L2 L1 hdL bodyT fC fA
 simp
theorem preL5 (p:Pg):L5 p <+: linesT p:=by rw [lines_L5];exact List.prefix_append _ _
theorem preL4 (p:Pg):L4 p <+: linesT p:=(List.prefix_append _ _:L4 p <+: L5 p).trans (preL5 p)
theorem preL3 (p:Pg):L3 p <+: linesT p:=(List.prefix_append _ _:L3 p <+: L4 p).trans (preL4 p)
theorem preL2 (p:Pg):L2 p <+: linesT p:=(List.prefix_append _ _:L2 p <+: L3 p).trans (preL3 p)
theorem preL1 (p:Pg):L1 p <+: linesT p:=(List.prefix_append _ _:L1 p <+: L2 p).trans (preL2 p)
theorem preL0 (p:Pg):hdL p <+: linesT p:=(List.prefix_append _ _:hdL p <+: L1 p).trans (preL1 p)
theorem snoc_take {α β:Type} (f:α->β) (H:List β) (l:List α) (k:Nat) (hk:k<l.length):H++(l.take k).map f++[f l[k]]=H++(l.take (k+1)).map f:=by
 rw [List.take_succ_eq_append_getElem hk,List.map_append,<- List.append_assoc];rfl
theorem snoc_takeF (H:List Bs) (l:List Fu) (k:Nat) (hk:k<l.length):H++(l.take k).flatMap funcT++funcT l[k]=H++(l.take (k+1)).flatMap funcT:=by
 rw [List.take_succ_eq_append_getElem hk,List.flatMap_append,<- List.append_assoc];simp
theorem funcT_eq (f:Fu):funcT f=[hdF f]++f.code.map lineM++[wEnd]:=by unfold funcT hdF bodyT;simp
theorem preF (p:Pg) (k:Nat) (hk:k<p.funcs.length):L2 p++(p.funcs.take k).flatMap funcT++funcT p.funcs[k] <+: linesT p:=by
 rw [snoc_takeF _ _ _ hk];exact (take_preF _ _ _).trans (preL3 p)
theorem print_bad (p:Pg) (a b c d:Value) (w:World) (hE:PrE w) (hp:PgV (·<w.heap.size) w a b c d p) (hok:PgOk p) (hck:(checkM p).2 ≠ 0) :
  Calls Tryz.prog 14 #[.agg #[.int .i64 p.width,a,b,c,d]] w fun e w'=>e=.returned (.tuple #[.string ⟨(printM p).1.toArray⟩,.int .i64 (printM p).2])/\Below w.heap.size w w':=by
 have HM:=hid (show printM p=([],(checkM p).2) from by unfold printM;rw [if_pos hck])
 obtain ⟨pa,ca,ha⟩:=hp.1.slc
 obtain ⟨pb,cb,hb⟩:=hp.2.1.slc
 obtain ⟨pc,cc,hc⟩:=hp.2.2.1.slc
 obtain ⟨pd,cd,hd⟩:=hp.2.2.2.slc
 subst ha hb hc hd
 have HP:=hid hp;have HE:=hid hE;have HOK:=hid hok
 obtain ⟨E,hE2⟩:∃ E,(checkM p).2=E:=⟨_,rfl⟩
 have HEE:=hid hE2
 have t1:(E == 0)=false:=by rw [beq_eq_false_iff_ne,<- hE2];exact hck
 rw [hE2] at HM
 clear hp hE hok hck hE2
 go_enter Tryz.func14,Tryz.ntmps14
 go_upto_region 1 with fail
 obtain ⟨w1,hw1⟩:∃ W,w.alloc (.cells #[.int .i64 p.width,.slice pa p.chans.length ca,.slice pb p.arrays.length cb,.slice pc p.funcs.length cc,.slice pd p.main.length cd] 27)=W:=⟨_,rfl⟩
 have HX1:=hid (show BxL 27 w.heap.size [.int .i64 p.width,.slice pa p.chans.length ca,.slice pb p.arrays.length cb,.slice pc p.funcs.length cc,.slice pd p.main.length cd] w1 from by rw [<- hw1];exact BxL.new _ _ _)
 have HB1:=hid (show Below w.heap.size w w1 from by rw [<- hw1];exact bA)
 rw [hw1]
 clear hw1
 obtain ⟨n0,n1,n2,n3,n4⟩:=HX1.p5
 go_wp2_with (go_at_call 34;(refine (check_any p _ _ _ _ _ (HE.out.below HB1.out) (HP.out.below HB1.out) HOK.out).mono ?_);rintro e w2 ⟨rfl,hb2⟩;rw [HEE.out];have HB2:=hid (HB1.out.trans (hb2.mono HB1.out.size));clear hb2)
 go_ret2
 exact ⟨by rw [HM.out];rfl,HB2.alloc HB2.size _⟩
theorem print_good (p:Pg) (a b c d:Value) (w:World) (hE:PrE w) (hp:PgV (·<w.heap.size) w a b c d p) (hok:PgOk p) (hn:NumP p) (hck:(checkM p).2=0) :
  Calls Tryz.prog 14 #[.agg #[.int .i64 p.width,a,b,c,d]] w fun e w'=>e=.returned (.tuple #[.string ⟨(printM p).1.toArray⟩,.int .i64 (printM p).2])/\Below w.heap.size w w':=by
 obtain ⟨pa,ca,ha⟩:=hp.1.slc
 obtain ⟨pb,cb,hb⟩:=hp.2.1.slc
 obtain ⟨pc,cc,hc⟩:=hp.2.2.1.slc
 obtain ⟨pd,cd,hd⟩:=hp.2.2.2.slc
 subst ha hb hc hd
 have HP:=hid hp;have HE:=hid hE;have HOK:=hid hok;have HNP:=hid hn;have HCK:=hid hck
 obtain ⟨ls,s1,ml,s2,hpt⟩:=check_parts p hck
 have HPT:=hid hpt
 have hmf:∀ (fn:Fn) (first cap:Array Value) (w:World),(Instr.makeFunc fn first cap).run Tryz.prog w=.ok (.func fn first cap) w:=fun _ _ _ _=>rfl
 clear hp hE hok hn hck hpt
 go_enter Tryz.func14,Tryz.ntmps14
 go_upto_region 1 with fail
 obtain ⟨w1,hw1⟩:∃ W,w.alloc (.cells #[.int .i64 p.width,.slice pa p.chans.length ca,.slice pb p.arrays.length cb,.slice pc p.funcs.length cc,.slice pd p.main.length cd] 27)=W:=⟨_,rfl⟩
 have HX1:=hid (show BxL 27 w.heap.size [.int .i64 p.width,.slice pa p.chans.length ca,.slice pb p.arrays.length cb,.slice pc p.funcs.length cc,.slice pd p.main.length cd] w1 from by rw [<- hw1];exact BxL.new _ _ _)
 have HB1:=hid (show Below w.heap.size w w1 from by rw [<- hw1];exact bA)
 rw [hw1]
 clear hw1
 obtain ⟨n0,n1,n2,n3,n4⟩:=HX1.p5
 go_upto_region 5 with (go_at_call 34;(refine (check_any p _ _ _ _ _ (HE.out.below HB1.out) (HP.out.below HB1.out) HOK.out).mono ?_);rintro e w2 ⟨rfl,hb2⟩;rw [HCK.out];have HB2:=hid (HB1.out.trans (hb2.mono HB1.out.size));have HX2:=hid (HX1.out.bel hb2);clear hb2)
 clear n0 n1 n2 n3 n4
 obtain ⟨b,hbn⟩:∃ b,w2.heap.size+1=b:=⟨_,rfl⟩
 rw [hbn]
 obtain ⟨w4,hw4⟩:∃ W,(w2.alloc (.cells #[.int .i64 (checkM p).1.1,.int .i64 (checkM p).1.2] 39)).alloc (.cells #[.pointer none,.slice none 0 0] 79)=W:=⟨_,rfl⟩
 have HBN:=hid (show w.heap.size<b from by rw [<- hbn];have:=HX2.lt;omega)
 have HB4:=hid (show Below w.heap.size w w4 from by rw [<- hw4];exact (HB2.alloc HB2.size _).alloc (by rw [sA];have:=HB2.size;omega) _)
 have HX4:=hid (show BxL 27 w.heap.size [.int .i64 p.width,.slice pa p.chans.length ca,.slice pb p.arrays.length cb,.slice pc p.funcs.length cc,.slice pd p.main.length cd] w4 from by rw [<- hw4];exact (HX2.al _).al _)
 have HI4:=hid (show Lib.IsBuilderF 79 5 b b (Lib.byteCells (textT [])) w4 from isb_new w4 _ _ _ (by
  have:=BxL.new 79 (w2.alloc (.cells #[.int .i64 (checkM p).1.1,.int .i64 (checkM p).1.2] 39)) [.pointer none,.slice none 0 0]
  rw [sA,hbn,hw4] at this
  exact this))
 rw [hw4]
 clear hw4 hbn HX2 HB2 HX1 HB1
 have HX:=hid (show ∀ W,Below b w4 W->BxL 27 w.heap.size [.int .i64 p.width,.slice pa p.chans.length ca,.slice pb p.arrays.length cb,.slice pc p.funcs.length cc,.slice pd p.main.length cd] W from fun W h=>HX4.keep (h.block _ HBN.out))
 have HBW:=hid (show ∀ W,Below b w4 W->Below w.heap.size w W from fun W h=>HB4.trans (h.mono (Nat.le_of_lt HBN.out)))
 have m0:w4.cell? ⟨w.heap.size,0,none⟩=some (.int .i64 p.width):=HX4.at 0 rfl
 go_upto_region 7 with (first
  | (go_at_call 47;(refine (itoaP_any p.width _ (by have:=HPT.out.width;omega) (by have:=HPT.out.width;omega) (HE.out.below HB4.out).pow).mono ?_);rintro e w5 ⟨rfl,hb5⟩;have HI5:=hid (isb_keep HI4.out hb5);have HB5:=hid (show Below b w4 w5 from hb5.mono (Nat.le_of_lt (isb_lt HI4.out)));clear hb5)
  | (go_at_call 45;(refine (put_line b ([]) [wWidth,Lib.itoa p.width] _ _ (isb_keep HI5.out ((Below.refl w5.heap.size w5).alloc lrf _)) ((GA.litS (B:=w5.heap.size) w5 9 [wWidth,Lib.itoa p.width] (by simp) (by simp) lrf).sl (by simp)) (Nat.le_trans (part_len HCK.out HNP.out (show []++[jn [wWidth,Lib.itoa p.width]] <+: linesT p from preL0 p)) (by decide))).mono ?_);rintro e w6 ⟨rfl,hi2,hb2,hk2⟩;have HI6:=hid hi2;have HB6:=hid ((HB5.out.alloc (Nat.le_of_lt (isb_lt HI5.out)) _).trans hb2);clear hi2 hb2 hk2))
 clear m0
 have m1:w6.cell? ⟨w.heap.size,1,none⟩=some (.slice pa p.chans.length ca):=(HX.out w6 HB6.out).at 1 rfl
 go_wp2_with fail
 clear m1
 have HPW:=hid (show ∀ W,Below b w4 W->PgV (·<W.heap.size) W (.slice pa p.chans.length ca) (.slice pb p.arrays.length cb) (.slice pc p.funcs.length cc) (.slice pd p.main.length cd) p from fun W h=>HP.below (HBW.out W h))
 have HEW:=hid (show ∀ W,Below b w4 W->PrE W from fun W h=>HE.below (HBW.out W h))
 go_loopw [9,36] (fun v9 iv wr=>∃ k:Nat,k<=p.chans.length/\iv=.int .i64 (k:Int)/\(Lib.IsBuilderF 79 5 b b (Lib.byteCells (textT (hdL p++(p.chans.take k).map fC))) wr/\Below b w4 wr)) (fun _ iv _=>p.chans.length - (intOf iv).toNat)
 case atStart=>exact ⟨0,Nat.zero_le _,rfl,by rw [List.take_zero];exact HI6.out,HB6.out⟩
 case round =>
  obtain ⟨k,hk,rfl,hi,hb⟩:=hrel
  by_cases hlt:k<p.chans.length
  ·obtain ⟨b1,o1,rfl,hR,hcells⟩:=str_at HP.1 (by omega:0<p.chans.length)
   have c0:=((HBW.out wr hb).cell (p:=⟨b1,o1+k,none⟩) hR).trans (hcells k hlt)
   have HSN:=hid (snoc_take fC (hdL p) p.chans k hlt)
   have HPRE:=hid (show hdL p++(p.chans.take k).map fC++[fC p.chans[k]] <+: linesT p from by rw [snoc_take _ _ _ _ hlt];exact (take_pre _ _ _ _).trans (preL1 p))
   have HLT:=hid hlt
   obtain ⟨Lk,hLk⟩:∃ L,hdL p++(p.chans.take k).map fC=L:=⟨_,rfl⟩
   rw [hLk] at HSN HPRE hi
   have HIr:=hid hi;have HBr:=hid hb
   clear hi hb hLk hcells hR
   generalize p.chans[k]=x at *
   have hlt:=HLT.out
   go_wp2_with (go_at_call 45;(refine (put_line b (Lk) [wChan,x] _ _ (isb_keep HIr.out ((Below.refl wr.heap.size wr).alloc lrf _)) ((GA.litS (B:=wr.heap.size) wr 9 [wChan,x] (by simp) (by simp) lrf).sl (by simp)) (Nat.le_trans (part_len HCK.out HNP.out (HPRE.out)) (by decide))).mono ?_);rintro e w7 ⟨rfl,hi2,hb2,hk2⟩;have HI7:=hid hi2;have HB7:=hid ((HBr.out.alloc (Nat.le_of_lt (isb_lt HIr.out)) _).trans hb2);clear hi2 hb2 hk2)
   go_roundw
   case rel=>exact ⟨k+1,HLT.out,by rw [wrap_next HLT.out HP.1.len],by rw [<- HSN.out];exact HI7.out,HB7.out⟩
   case measure=>exact meas_next HLT.out HP.1.len
  ·obtain rfl:k=p.chans.length:=by omega
   rw [List.take_length] at hi
   have HI8:=hid (show Lib.IsBuilderF 79 5 b b (Lib.byteCells (textT (L1 p))) wr from hi);have HB8:=hid hb
   have m2:wr.cell? ⟨w.heap.size,2,none⟩=some (.slice pb p.arrays.length cb):=(HX.out wr hb).at 2 rfl
   clear hi hb hlt hk
   go_wp2_with fail
   clear m2
   generalize wr=w8 at *
   go_loopw [11,48] (fun v9 iv wr=>∃ k:Nat,k<=p.arrays.length/\iv=.int .i64 (k:Int)/\(Lib.IsBuilderF 79 5 b b (Lib.byteCells (textT (L1 p++(p.arrays.take k).map fA))) wr/\Below b w4 wr)) (fun _ iv _=>p.arrays.length - (intOf iv).toNat)
   case atStart=>exact ⟨0,Nat.zero_le _,rfl,by rw [List.take_zero,List.map_nil,List.append_nil];exact HI8.out,HB8.out⟩
   case round =>
    obtain ⟨k,hk,rfl,hi,hb⟩:=hrel
    by_cases hlt:k<p.arrays.length
    ·obtain ⟨b1,o1,rfl,hR,hcells⟩:=ar_at HP.2.1 (by omega:0<p.arrays.length)
     have c0:=((HBW.out wr hb).cell (p:=⟨b1,o1+k*2,none⟩) hR).trans (hcells k hlt).1
     have c1:=((HBW.out wr hb).cell (p:=⟨b1,o1+k*2+1,none⟩) hR).trans (hcells k hlt).2
     have HSN:=hid (snoc_take fA (L1 p) p.arrays k hlt)
     have HPRE:=hid (show L1 p++(p.arrays.take k).map fA++[fA p.arrays[k]] <+: linesT p from by rw [snoc_take _ _ _ _ hlt];exact (take_pre _ _ _ _).trans (preL2 p))
     have HLT:=hid hlt
     have HAR:=hid (arrs_named _ _ HPT.ar p.arrays[k] (List.getElem_mem hlt))
     obtain ⟨Lk,hLk⟩:∃ L,L1 p++(p.arrays.take k).map fA=L:=⟨_,rfl⟩
     rw [hLk] at HSN HPRE hi
     have HIr:=hid hi;have HBr:=hid hb
     clear hi hb hLk hcells hR
     generalize p.arrays[k]=x at *
     have hlt:=HLT.out
     go_upto_region 15 with fail
     obtain ⟨wo,hwo⟩:∃ W,wr.alloc (.cells #[.string ⟨x.nm.toArray⟩,.int .i64 x.size] 87)=W:=⟨_,rfl⟩
     have hbx:BxL 87 wr.heap.size [.string ⟨x.nm.toArray⟩,.int .i64 x.size] wo:=by rw [<- hwo];exact BxL.new _ _ _
     have hbo:Below wr.heap.size wr wo:=by rw [<- hwo];exact bA
     have HIo:=hid (isb_keep HIr.out hbo)
     have HBo:=hid (show Below b w4 wo from HBr.trans (hbo.mono (Nat.le_of_lt (isb_lt HIr.out))))
     have HBX:=hid hbx
     rw [hwo]
     clear hwo hbx hbo c0 c1
     clear hlt
     have hS:(fun W=>W.cell? ⟨wr.heap.size,0,none⟩=some (.string ⟨x.nm.toArray⟩)/\W.cell? ⟨wr.heap.size,1,none⟩=some (.int .i64 x.size)) wo.drew:=⟨HBX.at 0 rfl,HBX.at 1 rfl⟩
     have HId:=hid (show Lib.IsBuilderF 79 5 b b (Lib.byteCells (textT Lk)) wo.drew from HIo.out)
     have HBd:=hid (show Below b w4 wo.drew from HBo.trans ((Below.refl wo.heap.size wo).drew.mono (Nat.le_of_lt (isb_lt HIo.out))))
     have hFa:=fT
     refine rgN (fun W=>W.cell? ⟨wr.heap.size,0,none⟩=some (.string ⟨x.nm.toArray⟩)/\W.cell? ⟨wr.heap.size,1,none⟩=some (.int .i64 x.size)) 6 (by kernel_rfl) ?_
     simp only [zP,Nat.reduceAdd]
     iterate 2 (refine npW (v:=?_) 8 (.inr hS) ?_ ?_;rotate_left;(focus intro w' _;go_simp;try rfl);simp only [aP])
     refine wpHJ_take (v:=?v0) 2 hFa rfl (by kernel_rfl) nE (Or.inl ⟨by rfl,?y0⟩) hS ?r0
     case y0=>(rintro w' ⟨s0,s1⟩;go_simp;try rfl)
     simp only [aP]
     refine wpHJ_pure (v:=?v1) 3 hFa rfl (by kernel_rfl) nE (Or.inl ⟨by rfl,?y1⟩) (.inr hS) ?r1
     case y1=>(intro w' _;go_simp;try rfl)
     simp only [aP]
     refine oy 4 fun K hK=>?_
     go_simp
     refine hK _ _ (.inr (.inr hS)) ?_
     clear hK K
     refine oy 5 fun K hK=>?_
     go_simp
     (with_reducible refine (callsIn_wide.2 (itoaP_any x.size wo.drew (by have:=HAR.out.2;omega) (by have:=HAR.out.2;omega) (HEW.out wo.drew HBd.out).pow)).mono ?_)
     rintro e w5 ⟨rfl,hb5⟩
     have hI5:=hid (isb_keep HId.out hb5)
     have hB5:=hid (HBd.trans (hb5.mono (Nat.le_of_lt (isb_lt HId.out))))
     have hS5:(fun W=>W.cell? ⟨wr.heap.size,0,none⟩=some (.string ⟨x.nm.toArray⟩)/\W.cell? ⟨wr.heap.size,1,none⟩=some (.int .i64 x.size)) w5:=⟨(hb5.cell (p:=⟨wr.heap.size,0,none⟩) HBX.lt).trans (HBX.at 0 rfl),(hb5.cell (p:=⟨wr.heap.size,1,none⟩) HBX.lt).trans (HBX.at 1 rfl)⟩
     clear hb5
     refine hK _ _ (.inr (.inr hS5)) ?_
     clear hK K
     refine oy 6 fun K hK=>?_
     go_simp
     refine hK _ _ (.inl rfl) ?_
     clear hK K
     refine oy 7 fun K hK=>?_
     go_simp
     (refine (callsIn_wide.2 (put_line b Lk [wArray,x.nm,Lib.itoa x.size] _ _ (isb_keep hI5.out ((Below.refl w5.heap.size w5).alloc lrf _)) ((GA.litS (B:=w5.heap.size) w5 9 [wArray,x.nm,Lib.itoa x.size] (by simp) (by simp) lrf).sl (by simp)) (Nat.le_trans (part_len HCK.out HNP.out HPRE.out) (by decide)))).mono ?_)
     rintro e w7 ⟨rfl,hi2,hb2,hk2⟩
     have HI7:=hid hi2
     have HB7:=hid ((hB5.alloc (Nat.le_of_lt (isb_lt hI5.out)) _).trans hb2)
     clear hi2 hb2 hk2
     refine hK _ _ (.inr (.inl rfl)) (dN ?_)
     clear hK K
     simp only [onlyN,Exit.then]
     clear hFa
     clear hS
     have hlt:=HLT.out
     go_wp2_with fail
     go_roundw
     case rel=>exact ⟨k+1,HLT.out,by rw [wrap_next HLT.out HP.2.1.len],by rw [<- HSN.out];exact HI7.out,HB7.out⟩
     case measure=>exact meas_next HLT.out HP.2.1.len
    ·obtain rfl:k=p.arrays.length:=by omega
     rw [List.take_length] at hi
     have HI9:=hid (show Lib.IsBuilderF 79 5 b b (Lib.byteCells (textT (L2 p))) wr from hi);have HB9:=hid hb
     have m3:wr.cell? ⟨w.heap.size,3,none⟩=some (.slice pc p.funcs.length cc):=(HX.out wr hb).at 3 rfl
     clear hi hb hlt hk
     go_wp2_with fail
     clear m3
     generalize wr=w9 at *
     go_loopw [13,64] (fun v9 iv wr=>∃ k:Nat,k<=p.funcs.length/\iv=.int .i64 (k:Int)/\(Lib.IsBuilderF 79 5 b b (Lib.byteCells (textT (L2 p++(p.funcs.take k).flatMap funcT))) wr/\Below b w4 wr)) (fun _ iv _=>p.funcs.length - (intOf iv).toNat)
     case atStart=>exact ⟨0,Nat.zero_le _,rfl,by rw [List.take_zero,List.flatMap_nil,List.append_nil];exact HI9.out,HB9.out⟩
     case round =>
      obtain ⟨k,hk,rfl,hi,hb⟩:=hrel
      by_cases hlt:k<p.funcs.length
      ·obtain ⟨b1,o1,rfl,hR,hcells⟩:=fu_at HP.2.2.1 (by omega:0<p.funcs.length)
       obtain ⟨pp,cp,pq,cq,hpar,hcode,c0,c1,c2,c3,c4⟩:=hcells k hlt
       have c0:=((HBW.out wr hb).cell (p:=⟨b1,o1+k*5,none⟩) hR).trans c0
       have c1:=((HBW.out wr hb).cell (p:=⟨b1,o1+k*5+1,none⟩) hR).trans c1
       have c2:=((HBW.out wr hb).cell (p:=⟨b1,o1+k*5+2,none⟩) hR).trans c2
       have c3:=((HBW.out wr hb).cell (p:=⟨b1,o1+k*5+3,none⟩) hR).trans c3
       have c4:=((HBW.out wr hb).cell (p:=⟨b1,o1+k*5+4,none⟩) hR).trans c4
       have HSN:=hid (snoc_takeF (L2 p) p.funcs k hlt)
       have HPRE:=hid (preF p k hlt)
       have HLT:=hid hlt
       have HFF:=hid (funcs_form _ _ _ _ _ _ HPT.fs p.funcs[k] (List.getElem_mem hlt))
       have HNF:=hid (HNP.funcs p.funcs[k] (List.getElem_mem hlt))
       have HPA:=hid hpar;have HCO:=hid hcode
       obtain ⟨Lk,hLk⟩:∃ L,L2 p++(p.funcs.take k).flatMap funcT=L:=⟨_,rfl⟩
       rw [hLk] at HSN HPRE hi
       have HIr:=hid hi;have HBr:=hid hb
       clear hi hb hLk hcells hR hpar hcode
       generalize p.funcs[k]=f at *
       have HPR0:=hid (show Lk++[hdF f] <+: linesT p from (by rw [funcT_eq];exact ⟨f.code.map lineM++[wEnd],by simp⟩:Lk++[hdF f] <+: Lk++funcT f).trans HPRE.out)
       have HPR1:=hid (show Lk++[hdF f]++f.code.map lineM <+: linesT p from (by rw [funcT_eq];exact ⟨[wEnd],by simp⟩:Lk++[hdF f]++f.code.map lineM <+: Lk++funcT f).trans HPRE.out)
       have HEQ:=hid (show Lk++funcT f=Lk++[hdF f]++f.code.map lineM++[wEnd] from by rw [funcT_eq];simp)
       have HPR2:=hid (show Lk++[hdF f]++f.code.map lineM++[wEnd] <+: linesT p from by rw [<- HEQ.out];exact HPRE.out)
       have hlt:=HLT.out
       go_upto_region 20 with fail
       obtain ⟨wo,hwo⟩:∃ W,wr.alloc (.cells #[.string ⟨f.nm.toArray⟩,.slice pp f.params.length cp,.slice pq f.code.length cq,.int .i64 f.pos.1,.int .i64 f.pos.2] 74)=W:=⟨_,rfl⟩
       have hbx:BxL 74 wr.heap.size [.string ⟨f.nm.toArray⟩,.slice pp f.params.length cp,.slice pq f.code.length cq,.int .i64 f.pos.1,.int .i64 f.pos.2] wo:=by rw [<- hwo];exact BxL.new _ _ _
       have hbo:Below wr.heap.size wr wo:=by rw [<- hwo];exact bA
       have HIo:=hid (isb_keep HIr.out hbo)
       have HBo:=hid (show Below b w4 wo from HBr.trans (hbo.mono (Nat.le_of_lt (isb_lt HIr.out))))
       have HBX:=hid hbx
       have HNE:=hid (show wr.heap.size ≠ b from by have:=isb_lt HIr.out;omega)
       rw [hwo]
       clear hwo hbx hbo c0 c1 c2 c3 c4 hlt
       have d0:wo.cell? ⟨wr.heap.size,0,none⟩=some (.string ⟨f.nm.toArray⟩):=HBX.at 0 rfl
       have d1:∀ o,(wo.alloc o).cell? ⟨wr.heap.size,1,none⟩=some (.slice pp f.params.length cp):=fun o=>(HBX.al o).at 1 rfl
       have HPS:=hid (HPA.below (HBW.out wo HBo.out))
       go_upto_region 21 with (first
        | (at_builtin;refine wpList_app (R:=(·<wo.heap.size)) _ rfl _ _ 22 rfl wo.heap.size 9 _ 16 Tryz.underlying22 info_strG rfl _ 2 ([wFunc,f.nm].map sv) rfl (GA.litS (B:=wo.heap.size) wo 9 [wFunc,f.nm] (by simp) (by simp) lrf).strs _ _ _ (f.params.map sv) rfl (by rw [List.length_map]) (HPS.out.strs.2.2.2.keep fun k hk=>⟨hk,by rw [heap_al,if_neg (by have:k<wo.heap.size:=hk;omega)]⟩) (sv_one _) (by have:=HFF.out.2.2.1;omega) (by have:=HFF.out.2.2.1;unfold maxLen;omega) (by rw [sA];omega) ?_;intro v5 w5 ho5 hg5 hv5;have hb5:Below wo.heap.size wo w5:=(((Below.refl wo.heap.size wo).alloc lrf _).grown hg5 (by rw [sA];omega) (own_ge (GA.litS (B:=wo.heap.size) wo 9 [wFunc,f.nm] (by simp) (by simp) lrf).strs));have hg:GA kStr wo.heap.size 9 w5 v5 (wFunc :: f.nm :: f.params):=(GA.ofStrs (by have e:(wFunc :: f.nm :: f.params).length=2+f.params.length:=(by simp only [List.length_cons];omega);rw [e];exact ho5));obtain ⟨p5,c5,rfl⟩:=hg.slc;have HG5:=hid (hg.sl (by have:=HFF.out.2.2.1;simp only [List.length_cons];omega));have HI5:=hid (isb_keep HIo.out hb5);have HB5:=hid (show Below b w4 w5 from HBo.out.trans (hb5.mono (Nat.le_of_lt (isb_lt HIo.out))));have HX5:=hid (HBX.out.bel hb5);clear ho5 hg5 hv5 hb5 hg d0 d1)
        | (go_at_call 45;(refine (put_line b Lk (wFunc :: f.nm :: f.params) _ _ HI5.out HG5.out (Nat.le_trans (part_len HCK.out HNP.out HPR0.out) (by decide))).mono ?_);rintro e w6 ⟨rfl,hi2,hb2,hk2⟩;have HI6:=hid (show Lib.IsBuilderF 79 5 b b (Lib.byteCells (textT (Lk++[hdF f]))) w6 from hi2);have HB6:=hid (HB5.out.trans hb2);have HX6:=hid (kept_box hk2 HX5.out HNE.out (by decide));clear hi2 hb2 hk2))
       have e2:w6.cell? ⟨wr.heap.size,2,none⟩=some (.slice pq f.code.length cq):=HX6.at 2 rfl
       go_wp2_with fail
       clear e2
       obtain ⟨Lf,hLf⟩:∃ L,Lk++[hdF f]=L:=⟨_,rfl⟩
       rw [hLf] at HPR1 HEQ HPR2 HI6
       clear hLf
       go_loopw [15,79] (fun v9 iv wr=>∃ j:Nat,j<=f.code.length/\iv=.int .i64 (j:Int)/\(Lib.IsBuilderF 79 5 b b (Lib.byteCells (textT (Lf++(f.code.take j).map lineM))) wr/\Below b w4 wr)) (fun _ iv _=>f.code.length - (intOf iv).toNat)
       case atStart=>exact ⟨0,Nat.zero_le _,rfl,by rw [List.take_zero,List.map_nil,List.append_nil];exact HI6.out,HB6.out⟩
       case round =>
        obtain ⟨j,hj,rfl,hi,hb⟩:=hrel
        by_cases hlt:j<f.code.length
        ·obtain ⟨b2,o2,rfl,hR,hcells⟩:=in_at HCO.out (by omega:0<f.code.length)
         obtain ⟨pi,ci,hargs,q0,q1,q2,q3,q4,q5,q6⟩:=hcells j hlt
         have q0:=((HBW.out wr hb).cell (p:=⟨b2,o2+j*7,none⟩) hR).trans q0
         have q1:=((HBW.out wr hb).cell (p:=⟨b2,o2+j*7+1,none⟩) hR).trans q1
         have q2:=((HBW.out wr hb).cell (p:=⟨b2,o2+j*7+2,none⟩) hR).trans q2
         have q3:=((HBW.out wr hb).cell (p:=⟨b2,o2+j*7+3,none⟩) hR).trans q3
         have q4:=((HBW.out wr hb).cell (p:=⟨b2,o2+j*7+4,none⟩) hR).trans q4
         have q5:=((HBW.out wr hb).cell (p:=⟨b2,o2+j*7+5,none⟩) hR).trans q5
         have q6:=((HBW.out wr hb).cell (p:=⟨b2,o2+j*7+6,none⟩) hR).trans q6
         have HSM:=hid (snoc_take lineM (Lf) f.code j hlt)
         have HPRM:=hid (show Lf++(f.code.take j).map lineM++[lineM f.code[j]] <+: linesT p from by rw [snoc_take _ _ _ _ hlt];exact (take_pre _ _ _ _).trans HPR1.out)
         have HLJ:=hid hlt
         have HFX:=hid (HFF.2.2.2.2 f.code[j] (List.getElem_mem hlt))
         have HNX:=hid (show ∀ a ∈ f.code[j].args,a.num<18446744073709551616 from fun a ha=>by have:a.num<=18446744073709551615:=HNF.out f.code[j] (List.getElem_mem hlt) a ha;omega)
         have HAX:=hid hargs
         obtain ⟨Lj,hLj⟩:∃ L,Lf++(f.code.take j).map lineM=L:=⟨_,rfl⟩
         rw [hLj] at HSM HPRM hi
         have HIq:=hid hi;have HBq:=hid hb
         clear hi hb hLj hcells hR hargs
         generalize f.code[j]=x at *
         have hlt:=HLJ.out
         go_upto_region 24 with fail
         obtain ⟨wx,hwx⟩:∃ W,wr.alloc (.cells #[.int .u8 (x.kind:Int),.int .u8 (x.op:Int),.string ⟨x.dst.toArray⟩,.string ⟨x.nm.toArray⟩,.slice pi x.args.length ci,.int .i64 x.pos.1,.int .i64 x.pos.2] 41)=W:=⟨_,rfl⟩
         have hbx:BxL 41 wr.heap.size [.int .u8 (x.kind:Int),.int .u8 (x.op:Int),.string ⟨x.dst.toArray⟩,.string ⟨x.nm.toArray⟩,.slice pi x.args.length ci,.int .i64 x.pos.1,.int .i64 x.pos.2] wx:=by rw [<- hwx];exact BxL.new _ _ _
         have hbo:Below wr.heap.size wr wx:=by rw [<- hwx];exact bA
         have HIx:=hid (isb_keep HIq.out hbo)
         have HBx:=hid (show Below b w4 wx from HBq.trans (hbo.mono (Nat.le_of_lt (isb_lt HIq.out))))
         rw [hwx]
         clear hwx hbo q0 q1 q2 q3 q4 q5 q6
         obtain ⟨q0,q1,q2,q3,q4,q5,q6⟩:=hbx.p7
         clear hbx
         go_wp2_with (first
          | (go_at_call 48;(refine (line_any x _ _ HFX.out HNX.out (HAX.out.below (HBW.out wx HBx.out)) (HEW.out wx HBx.out)).mono ?_);rintro e wl ⟨rfl,hbl⟩;have HIl:=hid (isb_keep HIx.out hbl);have HBl:=hid (show Below b w4 wl from HBx.out.trans (hbl.mono (Nat.le_of_lt (isb_lt HIx.out))));clear hbl q0 q1 q2 q3 q4 q5 q6)
          | (go_at_call 45;(refine (put_line b (Lj) [lineM x] _ _ (isb_keep HIl.out ((Below.refl wl.heap.size wl).alloc lrf _)) ((GA.litS (B:=wl.heap.size) wl 9 [lineM x] (by simp) (by simp) lrf).sl (by simp)) (Nat.le_trans (part_len HCK.out HNP.out (by rw [jn_one];exact HPRM.out)) (by decide))).mono ?_);rintro e w7 ⟨rfl,hi2,hb2,hk2⟩;rw [jn_one] at hi2;have HI7:=hid hi2;have HB7:=hid ((HBl.out.alloc (Nat.le_of_lt (isb_lt HIl.out)) _).trans hb2);clear hi2 hb2 hk2))
         go_roundw
         case rel=>exact ⟨j+1,HLJ.out,by rw [wrap_next HLJ.out HCO.len],by rw [<- HSM.out];exact HI7.out,HB7.out⟩
         case measure=>exact meas_next HLJ.out HCO.len
        ·obtain rfl:j=f.code.length:=by omega
         rw [List.take_length] at hi
         have HIe:=hid hi;have HBe:=hid hb
         clear hi hb hlt hj
         go_wp2_with (go_at_call 45;(refine (put_line b (Lf++f.code.map lineM) [wEnd] _ _ (isb_keep HIe.out ((Below.refl wr.heap.size wr).alloc lrf _)) ((GA.litS (B:=wr.heap.size) wr 9 [wEnd] (by simp) (by simp) lrf).sl (by simp)) (Nat.le_trans (part_len HCK.out HNP.out (by rw [jn_one];exact HPR2.out)) (by decide))).mono ?_);rintro e w7 ⟨rfl,hi2,hb2,hk2⟩;rw [jn_one] at hi2;have HI7:=hid hi2;have HB7:=hid ((HBe.out.alloc (Nat.le_of_lt (isb_lt HIe.out)) _).trans hb2);clear hi2 hb2 hk2)
         go_roundw
         case rel=>exact ⟨k+1,HLT.out,by rw [wrap_next HLT.out HP.2.2.1.len],by rw [<- HSN.out,HEQ.out];exact HI7.out,HB7.out⟩
         case measure=>exact meas_next HLT.out HP.2.2.1.len
      ·obtain rfl:k=p.funcs.length:=by omega
       rw [List.take_length] at hi
       have HI9:=hid (show Lib.IsBuilderF 79 5 b b (Lib.byteCells (textT (L3 p))) wr from hi);have HB9:=hid hb
       clear hi hb hlt hk
       generalize wr=w9 at *
       have HPR4:=hid (show L3 p++[wMain] <+: linesT p from preL4 p)
       have HPR5:=hid (preL5 p)
       have HMF:=hid (body_form _ _ _ _ _ HPT.main)
       have HMN:=hid HP.2.2.2
       go_upto_region 29 with (go_at_call 45;(refine (put_line b (L3 p) [wMain] _ _ (isb_keep HI9.out ((Below.refl w9.heap.size w9).alloc lrf _)) ((GA.litS (B:=w9.heap.size) w9 9 [wMain] (by simp) (by simp) lrf).sl (by simp)) (Nat.le_trans (part_len HCK.out HNP.out (by rw [jn_one];exact HPR4.out)) (by decide))).mono ?_);rintro e w5 ⟨rfl,hi2,hb2,hk2⟩;rw [jn_one] at hi2;have HI5:=hid hi2;have HB5:=hid ((HB9.out.alloc (Nat.le_of_lt (isb_lt HI9.out)) _).trans hb2);clear hi2 hb2 hk2)
       have m4:w5.cell? ⟨w.heap.size,4,none⟩=some (.slice pd p.main.length cd):=(HX.out w5 HB5.out).at 4 rfl
       go_wp2_with fail
       clear m4
       go_loopw [17,99] (fun v9 iv wr=>∃ j:Nat,j<=p.main.length/\iv=.int .i64 (j:Int)/\(Lib.IsBuilderF 79 5 b b (Lib.byteCells (textT (L4 p++(p.main.take j).map lineM))) wr/\Below b w4 wr)) (fun _ iv _=>p.main.length - (intOf iv).toNat)
       case atStart=>exact ⟨0,Nat.zero_le _,rfl,by rw [List.take_zero,List.map_nil,List.append_nil];exact HI5.out,HB5.out⟩
       case round =>
        obtain ⟨j,hj,rfl,hi,hb⟩:=hrel
        by_cases hlt:j<p.main.length
        ·obtain ⟨b2,o2,rfl,hR,hcells⟩:=in_at HMN.out (by omega:0<p.main.length)
         obtain ⟨pi,ci,hargs,q0,q1,q2,q3,q4,q5,q6⟩:=hcells j hlt
         have q0:=((HBW.out wr hb).cell (p:=⟨b2,o2+j*7,none⟩) hR).trans q0
         have q1:=((HBW.out wr hb).cell (p:=⟨b2,o2+j*7+1,none⟩) hR).trans q1
         have q2:=((HBW.out wr hb).cell (p:=⟨b2,o2+j*7+2,none⟩) hR).trans q2
         have q3:=((HBW.out wr hb).cell (p:=⟨b2,o2+j*7+3,none⟩) hR).trans q3
         have q4:=((HBW.out wr hb).cell (p:=⟨b2,o2+j*7+4,none⟩) hR).trans q4
         have q5:=((HBW.out wr hb).cell (p:=⟨b2,o2+j*7+5,none⟩) hR).trans q5
         have q6:=((HBW.out wr hb).cell (p:=⟨b2,o2+j*7+6,none⟩) hR).trans q6
         have HSM:=hid (snoc_take lineM (L4 p) p.main j hlt)
         have HPRM:=hid (show L4 p++(p.main.take j).map lineM++[lineM p.main[j]] <+: linesT p from by rw [snoc_take _ _ _ _ hlt];exact (take_pre _ _ _ _).trans HPR5.out)
         have HLJ:=hid hlt
         have HFX:=hid (HMF.out p.main[j] (List.getElem_mem hlt))
         have HNX:=hid (show ∀ a ∈ p.main[j].args,a.num<18446744073709551616 from fun a ha=>by have:a.num<=18446744073709551615:=HNP.main p.main[j] (List.getElem_mem hlt) a ha;omega)
         have HAX:=hid hargs
         obtain ⟨Lj,hLj⟩:∃ L,L4 p++(p.main.take j).map lineM=L:=⟨_,rfl⟩
         rw [hLj] at HSM HPRM hi
         have HIq:=hid hi;have HBq:=hid hb
         clear hi hb hLj hcells hR hargs
         generalize p.main[j]=x at *
         have hlt:=HLJ.out
         go_upto_region 32 with fail
         obtain ⟨wx,hwx⟩:∃ W,wr.alloc (.cells #[.int .u8 (x.kind:Int),.int .u8 (x.op:Int),.string ⟨x.dst.toArray⟩,.string ⟨x.nm.toArray⟩,.slice pi x.args.length ci,.int .i64 x.pos.1,.int .i64 x.pos.2] 41)=W:=⟨_,rfl⟩
         have hbx:BxL 41 wr.heap.size [.int .u8 (x.kind:Int),.int .u8 (x.op:Int),.string ⟨x.dst.toArray⟩,.string ⟨x.nm.toArray⟩,.slice pi x.args.length ci,.int .i64 x.pos.1,.int .i64 x.pos.2] wx:=by rw [<- hwx];exact BxL.new _ _ _
         have hbo:Below wr.heap.size wr wx:=by rw [<- hwx];exact bA
         have HIx:=hid (isb_keep HIq.out hbo)
         have HBx:=hid (show Below b w4 wx from HBq.trans (hbo.mono (Nat.le_of_lt (isb_lt HIq.out))))
         rw [hwx]
         clear hwx hbo q0 q1 q2 q3 q4 q5 q6
         obtain ⟨q0,q1,q2,q3,q4,q5,q6⟩:=hbx.p7
         clear hbx
         go_wp2_with (first
          | (go_at_call 48;(refine (line_any x _ _ HFX.out HNX.out (HAX.out.below (HBW.out wx HBx.out)) (HEW.out wx HBx.out)).mono ?_);rintro e wl ⟨rfl,hbl⟩;have HIl:=hid (isb_keep HIx.out hbl);have HBl:=hid (show Below b w4 wl from HBx.out.trans (hbl.mono (Nat.le_of_lt (isb_lt HIx.out))));clear hbl q0 q1 q2 q3 q4 q5 q6)
          | (go_at_call 45;(refine (put_line b (Lj) [lineM x] _ _ (isb_keep HIl.out ((Below.refl wl.heap.size wl).alloc lrf _)) ((GA.litS (B:=wl.heap.size) wl 9 [lineM x] (by simp) (by simp) lrf).sl (by simp)) (Nat.le_trans (part_len HCK.out HNP.out (by rw [jn_one];exact HPRM.out)) (by decide))).mono ?_);rintro e w7 ⟨rfl,hi2,hb2,hk2⟩;rw [jn_one] at hi2;have HI7:=hid hi2;have HB7:=hid ((HBl.out.alloc (Nat.le_of_lt (isb_lt HIl.out)) _).trans hb2);clear hi2 hb2 hk2))
         go_roundw
         case rel=>exact ⟨j+1,HLJ.out,by rw [wrap_next HLJ.out HMN.len],by rw [<- HSM.out];exact HI7.out,HB7.out⟩
         case measure=>exact meas_next HLJ.out HMN.len
        ·obtain rfl:j=p.main.length:=by omega
         rw [List.take_length] at hi
         have HIe:=hid hi;have HBe:=hid hb
         clear hi hb hlt hj
         obtain ⟨N,hN⟩:∃ N,(textT (linesT p)).length=N:=⟨_,rfl⟩
         have HN:=hid hN
         have HM:=hid (show printM p=if 65536<N then ([],5) else (textT (linesT p),0) from by unfold printM;rw [if_neg (by rw [HCK.out];decide),hN])
         clear hN
         by_cases hbig:65536<N
         ·have HBG:=hid hbig
          have hb1:(65536:Int)<(N:Int):=by omega
          go_wp2_with (first
           | (go_at_call 45;(refine (put_line b (L5 p) [wEnd] _ _ (isb_keep HIe.out ((Below.refl wr.heap.size wr).alloc lrf _)) ((GA.litS (B:=wr.heap.size) wr 9 [wEnd] (by simp) (by simp) lrf).sl (by simp)) (Nat.le_trans (part_len HCK.out HNP.out (by rw [jn_one,<- lines_L5];exact List.prefix_refl _)) (by decide))).mono ?_);rintro e w7 ⟨rfl,hi2,hb2,hk2⟩;rw [jn_one,<- lines_L5] at hi2;have HI7:=hid hi2;have HB7:=hid ((HBe.out.alloc (Nat.le_of_lt (isb_lt HIe.out)) _).trans hb2);clear hi2 hb2 hk2)
           | (go_at_call 49;(refine (Tryz.Builder_Len_f b b _ _ HI7.out).mono ?_);rintro e w8 ⟨rfl,rfl⟩;rw [Lib.byteCells_length,HN.out]))
          go_ret2
          refine ⟨?_,HBW.out _ HB7.out⟩
          rw [HM.out,if_pos HBG.out];rfl
         ·have HBG:=hid hbig
          have hb1:¬ (65536:Int)<(N:Int):=by omega
          go_wp2_with (first
           | (go_at_call 45;(refine (put_line b (L5 p) [wEnd] _ _ (isb_keep HIe.out ((Below.refl wr.heap.size wr).alloc lrf _)) ((GA.litS (B:=wr.heap.size) wr 9 [wEnd] (by simp) (by simp) lrf).sl (by simp)) (Nat.le_trans (part_len HCK.out HNP.out (by rw [jn_one,<- lines_L5];exact List.prefix_refl _)) (by decide))).mono ?_);rintro e w7 ⟨rfl,hi2,hb2,hk2⟩;rw [jn_one,<- lines_L5] at hi2;have HI7:=hid hi2;have HB7:=hid ((HBe.out.alloc (Nat.le_of_lt (isb_lt HIe.out)) _).trans hb2);clear hi2 hb2 hk2)
           | (go_at_call 49;(refine (Tryz.Builder_Len_f b b _ _ HI7.out).mono ?_);rintro e w8 ⟨rfl,rfl⟩;rw [Lib.byteCells_length,HN.out])
           | (go_at_call 50;(refine (Tryz.Builder_String_any_f b b _ _ HI7.out (Nat.le_of_lt (isb_lt HI7.out))).mono ?_);rintro e w9 ⟨rfl,hi9,hb9⟩;have HB9:=hid (HB7.out.trans hb9);clear hi9 hb9))
          go_ret2
          refine ⟨?_,HBW.out _ HB9.out⟩
          rw [HM.out,if_neg HBG.out];rfl
theorem print_any (p:Pg) (a b c d:Value) (w:World) (hE:PrE w) (hp:PgV (·<w.heap.size) w a b c d p) (hok:PgOk p) (hn:NumP p) :
  Calls Tryz.prog 14 #[.agg #[.int .i64 p.width,a,b,c,d]] w fun e w'=>e=.returned (.tuple #[.string ⟨(printM p).1.toArray⟩,.int .i64 (printM p).2])/\Below w.heap.size w w':=by
 by_cases h:(checkM p).2=0
 ·exact print_good p a b c d w hE hp hok hn h
 ·exact print_bad p a b c d w hE hp hok h
end Go.Proofs.YtoofbgoeipijcaaGreatDoor
