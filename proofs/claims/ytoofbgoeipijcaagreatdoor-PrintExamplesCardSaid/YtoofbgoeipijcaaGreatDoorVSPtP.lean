/-
 A part.
-/
import Derived.Test.YtoofbgoeipijcaaGreatDoorVB38
namespace Go.Proofs.YtoofbgoeipijcaaGreatDoor
set_option linter.all false
open Go.RowKit Go.Shelf
attribute [local go_sem] Oper.semAt_some
theorem text_cells (l m:Bs):Lib.byteCells (l++m)=Lib.byteCells l++Lib.byteCells m:=by simp [Lib.byteCells]
theorem str_cells (l:Bs):Lib.strCells ⟨l.toArray⟩=Lib.byteCells l:=by simp [Lib.strCells,Lib.byteCells]
theorem info_u8P:(Tryz.prog.info? 5).map (fun i=>(i.zero,i.size,i.bytes))=some (some (.int .u8 0),1,1):=by kernel_rfl
theorem own_text {b:Nat} {w:World} {p:Option Addr} {n c:Nat} {l:Bs} (h:w.ownsRow b 5 1 (.slice p n c) n (Lib.byteCells l)) (hn:n=l.length) (h0:0<n) :
  (convert 51 9 (.slice p n c)).run Tryz.prog w=.ok (.string ⟨l.toArray⟩) w:=by
 subst hn
 have hcell:=h
 rcases h.2 with ⟨h1,h2⟩ | ⟨g,cap,cur,h1,hb,hg,hnc,hcm,hcs,ht⟩
 ·omega
 ·cases h1
  refine run_convert_bytes_back (P:=Tryz.prog) w 51 9 5 ⟨g,0,none⟩ _ l Tryz.underlying51 Tryz.underlying5 Tryz.underlying9 fun j hj=>?_
  have h2:=hcell.cells (g:=g) rfl j (.int .u8 (l[j].toNat:Int)) (by simp [Lib.byteCells,List.getElem?_eq_getElem hj])
  exact h2
set_option maxRecDepth 100000 in
set_option maxHeartbeats 16000000 in
theorem rprint_any (p:Pg) (a b c d:Value) (w:World) (hp:PgV (·<w.heap.size) w a b c d p) (hl:RLen p) (hn:NumP p) :
  Calls Tryz.prog 15 #[.agg #[.int .i64 p.width,a,b,c,d]] w fun e w'=>e=.returned (.tuple #[.string ⟨(printM p).1.toArray⟩,.int .i64 (printM p).2])/\Below w.heap.size w w':=by
 obtain ⟨pa,ca,hva⟩:=hp.1.slc
 obtain ⟨pb,cb,hvb⟩:=hp.2.1.slc
 obtain ⟨pc,cc,hvc⟩:=hp.2.2.1.slc
 obtain ⟨pd,cd,hvd⟩:=hp.2.2.2.slc
 subst hva hvb hvc hvd
 have HP:=hid hp
 have HL:=hid hl;have HNU:=hid hn
 clear hp hl hn
 obtain ⟨wo,hwo⟩:∃ W,w.alloc (.cells #[.int .i64 p.width,.slice pa p.chans.length ca,.slice pb p.arrays.length cb,.slice pc p.funcs.length cc,.slice pd p.main.length cd] 27)=W:=⟨_,rfl⟩
 have HWO:=hid hwo
 have HX:=hid (show BxL 27 w.heap.size [.int .i64 p.width,.slice pa p.chans.length ca,.slice pb p.arrays.length cb,.slice pc p.funcs.length cc,.slice pd p.main.length cd] wo from by rw [<- hwo];exact BxL.new _ _ _)
 have HB:=hid (show Below w.heap.size w wo from by rw [<- hwo];exact bA)
 have HG:=hid (show PgV (·<wo.heap.size) wo (.slice pa p.chans.length ca) (.slice pb p.arrays.length cb) (.slice pc p.funcs.length cc) (.slice pd p.main.length cd) p from HP.below HB.out)
 clear hwo
 have HCK:=hid (rcheckP_any p _ _ _ _ wo HG.out HL.out)
 obtain ⟨n0,n1,n2,n3,n4⟩:=HX.p5
 obtain ⟨⟨⟨q0,q1⟩,er⟩,hck⟩:∃ q,checkM p=q:=⟨_,rfl⟩
 rw [hck] at HCK
 have HCM:=hid (show Calls Tryz.prog 51 #[.agg #[.int .i64 p.width,.slice pa p.chans.length ca,.slice pb p.arrays.length cb,.slice pc p.funcs.length cc,.slice pd p.main.length cd]] wo (fun e w'=>e=.returned (.tuple #[.agg #[.int .i64 q0,.int .i64 q1],.int .i64 er])/\Below wo.heap.size wo w') from HCK.out)
 by_cases hz:er=0
 case neg =>
  have hne:(er != 0)=true:=by rw [bne_iff_ne];exact hz
  have HPM:=hid (show printM p=([],er) from by unfold printM;rw [hck,if_pos hz])
  clear hz hck
  go_enter Tryz.func15,Tryz.ntmps15
  go_upto_region 1 with fail
  rw [HWO.out]
  go_wp2_with (go_at_call 51;(with_reducible refine HCM.out.mono ?_);rintro e w1 ⟨rfl,hb1⟩;have HB1:=hid (HB.out.trans (hb1.mono HB.out.size));clear hb1)
  (try simp only [Exit.inBlock,Exit.then])
  refine bodyPost_ret (v := .tuple #[.string ⟨#[]⟩,.int .i64 er]) (by simp [results,Tryz.results15,go_sem]) rfl ?_
  exact ⟨by rw [HPM.out],HB1.alloc HB1.size _⟩
 subst hz
 have HV:=hid (vp_of p (by rw [hck]))
 have HPM:=hid (show printM p=if 65536<(textT (linesT p)).length then ([],5) else (textT (linesT p),0) from by unfold printM;rw [hck,if_neg (by simp)])
 have HLL:=hid (lines_len p (by rw [hck]) HNU.out)
 clear hck HCK
 obtain ⟨W,hW⟩:∃ W:Nat,p.width=(W:Int):=⟨p.width.toNat,by have:=HV.width;omega⟩
 have HW:=hid hW
 have hW64:W<=64:=by have:=HV.width;omega
 clear hW
 go_enter Tryz.func15,Tryz.ntmps15
 go_upto_region 1 with fail
 rw [HWO.out]
 go_upto_region 4 with (go_at_call 51;(with_reducible refine HCM.out.mono ?_);rintro e w1 ⟨rfl,hb1⟩;have HB1:=hid (HB.out.trans (hb1.mono HB.out.size));have HX1:=hid (HX.out.bel hb1);clear hb1)
 obtain ⟨w2,hw2⟩:∃ W,w1.alloc (.cells #[.int .i64 q0,.int .i64 q1] 39)=W:=⟨_,rfl⟩
 have hb2:Below w1.heap.size w1 w2:=by rw [<- hw2];exact bA
 rw [hw2]
 have HB2:=hid (HB1.trans (hb2.mono HB1.size));have HX2:=hid (HX1.bel hb2)
 have HG2:=hid (HP.below HB2.out)
 clear hb2 hw2 n0 n1 n2 n3 n4
 have n0:w2.cell? ⟨w.heap.size,0,none⟩=some (.int .i64 (W:Int)):=by rw [<- HW.out];exact HX2.at 0 rfl
 obtain ⟨D,hD⟩:∃ D,Lib.decDigits W=D:=⟨_,rfl⟩
 have HD:=hid hD
 have HL0:=hid (show hdLs p=[jn [wWidth,D]] from by unfold hdLs;rw [HW.out,Lib.itoa_nonneg,hD])
 have hDl:D.length<=21:=by rw [<- hD,<- Lib.itoa_nonneg];exact itoa_short _ (by have:=HV.width;have:=HW.out;omega) (by omega)
 have HNM:=hid (rnum_any W (by omega) w2)
 rw [hD] at HNM
 clear hD
 go_upto_region 5 with (go_at_call 52;(with_reducible refine HNM.out.mono ?_);rintro e w3 ⟨rfl,hb3⟩;have HB3:=hid hb3;clear hb3)
 clear n0
 rw [wd_cat D]
 obtain ⟨w4,hw4⟩:∃ W,w3.alloc (.cells #[.string ⟨(jn [wWidth,D]).toArray⟩] 9)=W:=⟨_,rfl⟩
 have HG4:=hid (show GA kStr w2.heap.size 9 w4 (.slice (some ⟨w3.heap.size,0,none⟩) 1 1) (hdLs p) from by rw [<- hw4,HL0.out];exact GA.lit1 (K:=kStr) (cs:=[.string ⟨(jn [wWidth,D]).toArray⟩]) w3 9 rfl HB3.size)
 have HB4:=hid (show Below w2.heap.size w2 w4 from by rw [<- hw4];exact HB3.alloc HB3.size _)
 rw [hw4]
 clear hw4
 have HBW:=hid (show ∀ W',Below w2.heap.size w2 W'->Below w.heap.size w W' from fun W' h=>HB2.trans (h.mono HB2.size))
 go_wp2_with fail
 go_loopw [6,7] (fun ov iv wr=>∃ k:Nat,k<=p.chans.length/\iv=.int .i64 (k:Int)/\GA kStr w2.heap.size 9 wr ov (hdLs p++chLs (p.chans.take k))/\Below w2.heap.size w2 wr) (fun _ iv _=>p.chans.length - (intOf iv).toNat)
 case atStart=>exact ⟨0,Nat.zero_le _,rfl,by simpa [chLs] using HG4.out,HB4.out⟩
 case round =>
  obtain ⟨k,hk,rfl,hga,hbr⟩:=hrel
  obtain ⟨T,hT⟩:∃ T,hdLs p++chLs (p.chans.take k)=T:=⟨_,rfl⟩
  rw [hT] at hga
  have HTD:=hid hT
  have HCL:=hid (show T.length<=100 from by rw [<- hT];unfold hdLs chLs;rw [List.length_append,List.length_map,List.length_take];have:=HV.nch;simp;omega)
  clear hT
  obtain ⟨po,co,rfl⟩:=hga.slc
  have HBr:=hid hbr;have HGr:=hid hga
  by_cases hlt:k<p.chans.length
  ·obtain ⟨sb,so,rfl,hRs,hcs⟩:=str_at HP.1 (by omega:0<p.chans.length)
   have d0:=((HBW.out wr hbr).cell (p:=⟨sb,so+k,none⟩) hRs).trans (hcs k hlt)
   have n1:wr.cell? ⟨w.heap.size,1,none⟩=some (.slice (some ⟨sb,so,none⟩) p.chans.length ca):=(HX2.bel hbr).at 1 rfl
   have HSN:=hid (show hdLs p++chLs (p.chans.take (k+1))=T++[jn [wChan,p.chans[k]]] from by rw [chLs_next _ _ hlt,<- List.append_assoc,HTD.out])
   have HLT:=hid hlt
   clear hcs hRs hbr hga
   have hyl:=HV.chs _ (List.getElem_mem hlt)
   generalize p.chans[k]=y at *
   obtain ⟨jy,hjy⟩:∃ j,jn [wChan,y]=j:=⟨_,rfl⟩
   have hcat:=ch_cat y
   rw [hjy] at hcat HSN
   clear hjy
   go_wp2_with (at_builtin;refine wpList_push (K:=kStr) (x:=jy) (cs:=[.string ⟨jy.toArray⟩]) (te:=9) rfl _ _ 22 rfl Tryz.underlying22 _ 16 info_strG rfl HGr.out (rfl) rfl rfl (by have:=HCL.out;omega) (by have:=HCL.out;unfold maxLen;omega) HBr.out.size ?_;intro v5 w5 hg5 hgr5 hm5;have HG5:=hid hg5;have HB5:=hid (below_push HGr.out HBr.out hgr5 HBr.out.size);clear hg5 hgr5 hm5)
   go_roundw
   case rel=>exact ⟨k+1,HLT.out,by first | (rw [wrap_next HLT.out (by have:=HV.nch;omega)]) | rfl,by rw [HSN.out];exact HG5.out,HB5.out⟩
   case measure=>first | exact meas_next HLT.out (by have:=HV.nch;omega) | (have h1:=HLT.out;simp [intOf];omega)
  ·obtain rfl:k=p.chans.length:=by omega
   have HA0:=hid (show hdLs p++chLs p.chans=T from by rw [<- HTD.out,List.take_length])
   have n1:wr.cell? ⟨w.heap.size,1,none⟩=some (.slice pa p.chans.length ca):=(HX2.bel hbr).at 1 rfl
   clear hlt hbr hga HTD
   obtain ⟨A0,hA0⟩:∃ A,A=T:=⟨_,rfl⟩
   subst hA0
   go_wp2_with fail
   clear n1
   go_loopw [6,8] (fun ov iv ws=>∃ k:Nat,k<=p.arrays.length/\iv=.int .i64 (k:Int)/\GA kStr w2.heap.size 9 ws ov (A0++arLs (p.arrays.take k))/\Below w2.heap.size w2 ws) (fun _ iv _=>p.arrays.length - (intOf iv).toNat)
   case atStart=>exact ⟨0,Nat.zero_le _,rfl,by simpa [arLs] using HGr.out,HBr.out⟩
   case round =>
    obtain ⟨k,hk,rfl,hga,hbr⟩:=hrel
    obtain ⟨T,hT⟩:∃ T,A0++arLs (p.arrays.take k)=T:=⟨_,rfl⟩
    rw [hT] at hga
    have HTD:=hid hT
    have HCL2:=hid (show T.length<=200 from by rw [<- hT];unfold arLs;rw [List.length_append,List.length_map,List.length_take];have:=HV.nar;have:=HCL.out;omega)
    clear hT HCL
    have HCL:=HCL2
    clear HCL2 HBr HGr
    obtain ⟨po,co,rfl⟩:=hga.slc
    have HBr:=hid hbr;have HGr:=hid hga
    by_cases hlt:k<p.arrays.length
    ·obtain ⟨ab,ao,rfl,hRa,hca⟩:=ar_at HP.2.1 (by omega:0<p.arrays.length)
     obtain ⟨c0,c1⟩:=hca k hlt
     have hars:=HV.ars _ (List.getElem_mem hlt)
     have HSN:=hid (show A0++arLs (p.arrays.take (k+1))=T++[jn [wArray,(p.arrays[k]).nm,Lib.itoa (p.arrays[k]).size]] from by rw [arLs_next _ _ hlt,<- List.append_assoc,HTD.out])
     have n2:wr.cell? ⟨w.heap.size,2,none⟩=some (.slice (some ⟨ab,ao,none⟩) p.arrays.length cb):=(HX2.bel hbr).at 2 rfl
     have HLT:=hid hlt
     generalize p.arrays[k]=q at *
     obtain ⟨ha1,ha2,ha3⟩:=hars
     obtain ⟨z,hz⟩:∃ z:Nat,q.size=(z:Int):=⟨q.size.toNat,by omega⟩
     have HZU:=hid (show z<18446744073709551616 from by omega)
     have hz64:z<=64:=by omega
     obtain ⟨D2,hD2⟩:∃ D,Lib.decDigits z=D:=⟨_,rfl⟩
     rw [hz] at c1
     rw [hz,Lib.itoa_nonneg,hD2] at HSN
     have HC1:=hid ((HB2.cell (p:=⟨ab,ao+k*2+1,none⟩) hRa).trans c1)
     have HRa0:=hRa
     obtain ⟨y,hy⟩:∃ y,q.nm=y:=⟨_,rfl⟩
     rw [hy] at c0 HSN
     have HC0:=hid ((HB2.cell (p:=⟨ab,ao+k*2,none⟩) hRa).trans c0)
     have HRa:=hid (Nat.lt_of_lt_of_le hRa HB2.size)
     have HGD:=hid (hga.keep (Below.refl wr.heap.size wr).drew)
     have hyl:y.length<=32:=by rw [<- hy];exact ha1
     have hD2l:D2.length<=21:=by rw [<- hD2,<- Lib.itoa_nonneg];exact itoa_short _ (by omega) (by omega)
     clear hz hy c0 c1 hca hRa HRa0 ha1 ha2 ha3 hbr hga HD
     have HD:=hid hD2
     clear hD2
     obtain ⟨D,hDD⟩:∃ D,D2=D:=⟨_,rfl⟩
     subst hDD
     go_upto_region 12 with fail
     have hS:(fun W=>W.cell? ⟨w.heap.size,2,none⟩=some (.slice (some ⟨ab,ao,none⟩) p.arrays.length cb)/\W.cell? ⟨ab,ao+k*2,none⟩=some (.string ⟨y.toArray⟩)/\W.cell? ⟨ab,ao+k*2+1,none⟩=some (.int .i64 (z:Int))) wr.drew:=⟨(HX2.bel HBr.drew).at 2 rfl,(HBr.drew.cell (p:=⟨ab,ao+k*2,none⟩) HRa.out).trans HC0.out,(HBr.drew.cell (p:=⟨ab,ao+k*2+1,none⟩) HRa.out).trans HC1.out⟩
     have hk2:=HLT.out
     have h7:¬ 9223372036854775807<6+y.length:=by omega
     have h8:¬ 9223372036854775807<6+y.length+1:=by omega
     have h17:¬ 9223372036854775807<6+y.length+1+D2.length:=by omega
     have hFa:=fT
     refine rgN (fun W=>W.cell? ⟨w.heap.size,2,none⟩=some (.slice (some ⟨ab,ao,none⟩) p.arrays.length cb)/\W.cell? ⟨ab,ao+k*2,none⟩=some (.string ⟨y.toArray⟩)/\W.cell? ⟨ab,ao+k*2+1,none⟩=some (.int .i64 (z:Int))) 20 (by kernel_rfl) ?_
     simp only [zP,Nat.reduceAdd]
     iterate 2 (refine npW (v:=?_) 21 (.inr hS) ?_ ?_;rotate_left;(focus intro w' _;go_simp;try rfl);simp only [aP])
     refine wpHJ_take (v:=?v4) 2 hFa rfl (by kernel_rfl) nE (Or.inl ⟨by rfl,?y4⟩) hS ?r4
     case y4=>(rintro w' ⟨s0,s1,s2⟩;go_simp;try rfl)
     simp only [aP]
     iterate 3 (refine npW (v:=?_) 21 (.inr hS) ?_ ?_;rotate_left;(focus intro w' _;go_simp;try rfl);simp only [aP])
     refine wpHJ_take (v:=?v5) 6 hFa rfl (by kernel_rfl) nE (Or.inl ⟨by rfl,?y5⟩) hS ?r5
     case y5=>(rintro w' ⟨s0,s1,s2⟩;go_simp;try rfl)
     simp only [aP]
     iterate 3 (refine npW (v:=?_) 21 (.inr hS) ?_ ?_;rotate_left;(focus intro w' _;go_simp;try rfl);simp only [aP])
     refine wpHJ_take (v:=?v0) 10 hFa rfl (by kernel_rfl) nE (Or.inl ⟨by rfl,?y0⟩) hS ?r0
     case y0=>(rintro w' ⟨s0,s1,s2⟩;go_simp;try rfl)
     simp only [aP]
     iterate 3 (refine npW (v:=?_) 21 (.inr hS) ?_ ?_;rotate_left;(focus intro w' _;go_simp;try rfl);simp only [aP])
     refine wpHJ_take (v:=?v1) 14 hFa rfl (by kernel_rfl) nE (Or.inl ⟨by rfl,?y1⟩) hS ?r1
     case y1=>(rintro w' ⟨s0,s1,s2⟩;go_simp;try rfl)
     simp only [aP]
     refine wpHJ_pure (v:=?v2) 15 hFa rfl (by kernel_rfl) nE (Or.inl ⟨by rfl,?y2⟩) (.inr hS) ?r2
     case y2=>(intro w' _;go_simp;try rfl)
     simp only [aP]
     refine oy 16 fun K hK=>?_
     go_simp
     rw [show IntKind.u64.wrap (z:Int)=(z:Int) from IntWalk.u64_in _ (by omega)]
     (with_reducible refine (callsIn_wide.2 (rnum_any z HZU.out wr.drew)).mono ?_)
     rintro e w5 ⟨rfl,hb5⟩
     rw [HD.out]
     have HB5:=hid (HBr.drew.trans (hb5.mono HBr.drew.size))
     have HG5:=hid (HGD.keep hb5)
     clear hb5
     have hS5:(fun W=>W.cell? ⟨w.heap.size,2,none⟩=some (.slice (some ⟨ab,ao,none⟩) p.arrays.length cb)/\W.cell? ⟨ab,ao+k*2,none⟩=some (.string ⟨y.toArray⟩)/\W.cell? ⟨ab,ao+k*2+1,none⟩=some (.int .i64 (z:Int))) w5:=⟨(HX2.bel HB5.out).at 2 rfl,(HB5.cell (p:=⟨ab,ao+k*2,none⟩) HRa.out).trans HC0.out,(HB5.cell (p:=⟨ab,ao+k*2+1,none⟩) HRa.out).trans HC1.out⟩
     refine hK _ _ (.inr (.inr hS5)) ?_
     clear hK K
     refine wpHJ_pure (v:=?v3) 17 hFa rfl (by kernel_rfl) nE (Or.inl ⟨by rfl,?y3⟩) (.inr hS5) ?r3
     case y3=>(intro w' _;go_simp;try rfl)
     simp only [aP]
     refine oy 18 fun K hK=>?_
     go_simp
     rw [ar_cat y D2]
     have HBa:=hid (HB5.alloc HB5.size (.cells #[.string ⟨(jn [wArray,y,D2]).toArray⟩] 9))
     have HGa:=hid (HG5.keep ((Below.refl w5.heap.size w5).alloc lrf (.cells #[.string ⟨(jn [wArray,y,D2]).toArray⟩] 9)))
     have hSa:(fun W=>W.cell? ⟨w.heap.size,2,none⟩=some (.slice (some ⟨ab,ao,none⟩) p.arrays.length cb)/\W.cell? ⟨ab,ao+k*2,none⟩=some (.string ⟨y.toArray⟩)/\W.cell? ⟨ab,ao+k*2+1,none⟩=some (.int .i64 (z:Int))) (w5.alloc (.cells #[.string ⟨(jn [wArray,y,D2]).toArray⟩] 9)):=⟨(HX2.bel HBa.out).at 2 rfl,(HBa.cell (p:=⟨ab,ao+k*2,none⟩) HRa.out).trans HC0.out,(HBa.cell (p:=⟨ab,ao+k*2+1,none⟩) HRa.out).trans HC1.out⟩
     refine hK _ _ (.inr (.inr hSa)) ?_
     clear hK K
     refine oy 19 fun K hK=>?_
     refine wpIn_catS hFa (.tmp 49) (.tmp 67) 22 rfl Tryz.underlying22 info_strG HGa.out (SlG.one1 w5 (jn [wArray,y,D2]) 9) (by rfl) (by rfl) (by have:=HCL.out;simp;omega) HBa.size ?_
     intro v6 w6 hg6 hb6 hz6 hk6
     simp only [aP]
     obtain ⟨p6,c6,rfl⟩:=hg6.slc
     have HG6:=hid hg6
     have HB6:=hid (HBa.trans hb6)
     clear hg6 hb6 hz6 hk6
     have hS6:(fun W=>W.cell? ⟨w.heap.size,2,none⟩=some (.slice (some ⟨ab,ao,none⟩) p.arrays.length cb)/\W.cell? ⟨ab,ao+k*2,none⟩=some (.string ⟨y.toArray⟩)/\W.cell? ⟨ab,ao+k*2+1,none⟩=some (.int .i64 (z:Int))) w6:=⟨(HX2.bel HB6.out).at 2 rfl,(HB6.cell (p:=⟨ab,ao+k*2,none⟩) HRa.out).trans HC0.out,(HB6.cell (p:=⟨ab,ao+k*2+1,none⟩) HRa.out).trans HC1.out⟩
     refine hK _ _ (.inr (.inr hS6)) ?_
     clear hK K
     refine oy 20 fun K hK=>?_
     go_simp
     refine hK _ _ (.inl rfl) (dN ?_)
     clear hK K
     simp only [onlyN,Exit.then]
     clear hFa
     clear hS hS5 hSa hS6
     go_wp2_with fail
     go_roundw
     case rel=>exact ⟨k+1,HLT.out,by first | (rw [wrap_next HLT.out (by have:=HV.nar;omega)]) | rfl,by rw [HSN.out];have h:=HG6.out;rw [List.length_append] at h;exact h,HB6.out⟩
     case measure=>first | exact meas_next HLT.out (by have:=HV.nar;omega) | (have h1:=HLT.out;simp [intOf];omega)
    ·obtain rfl:k=p.arrays.length:=by omega
     have HF0:=hid (show A0++arLs p.arrays=T from by rw [<- HTD.out,List.take_length])
     have n2:wr.cell? ⟨w.heap.size,2,none⟩=some (.slice pb p.arrays.length cb):=(HX2.bel hbr).at 2 rfl
     clear hlt hbr hga HTD
     obtain ⟨F0,hF0⟩:∃ A,A=T:=⟨_,rfl⟩
     subst hF0
     go_wp2_with fail
     clear n2
     go_loopw [6,9] (fun ov iv ws=>∃ k:Nat,k<=p.funcs.length/\iv=.int .i64 (k:Int)/\GA kStr w2.heap.size 9 ws ov (F0++fuLs (p.funcs.take k))/\Below w2.heap.size w2 ws) (fun _ iv _=>p.funcs.length - (intOf iv).toNat)
     case atStart=>exact ⟨0,Nat.zero_le _,rfl,by simpa [fuLs] using HGr.out,HBr.out⟩
     case round =>
      obtain ⟨k,hk,rfl,hga,hbr⟩:=hrel
      obtain ⟨T,hT⟩:∃ T,F0++fuLs (p.funcs.take k)=T:=⟨_,rfl⟩
      rw [hT] at hga
      have HTD:=hid hT
      have HCL2:=hid (show T.length<=41000 from by rw [<- hT,List.length_append];have:=fuLs_len p HV.out k;have:=HCL.out;omega)
      clear hT HCL
      have HCL:=HCL2
      clear HCL2 HBr HGr
      obtain ⟨po,co,rfl⟩:=hga.slc
      have HBr:=hid hbr;have HGr:=hid hga
      by_cases hlt:k<p.funcs.length
      ·obtain ⟨fb,fo,rfl,hRf,hcf⟩:=fu_at HP.2.2.1 (by omega:0<p.funcs.length)
       obtain ⟨pp,cp,pq,cq,hpar,hcode,f0,f1,f2,f3,f4⟩:=hcf k hlt
       have hfs:=HV.fs _ (List.getElem_mem hlt)
       have hqi:=HL.ins k
       have hba:bodyAt p k=(p.funcs[k]).code:=by unfold bodyAt;rw [dif_pos hlt]
       rw [hba] at hqi
       have hqn:=HNU.funcs _ (List.getElem_mem hlt)
       have HSN:=hid (show F0++fuLs (p.funcs.take (k+1))=(T++[jn (wFunc :: (p.funcs[k]).nm :: (p.funcs[k]).params)])++bodyT (p.funcs[k]).code from by rw [fuLs_next _ _ hlt,<- List.append_assoc,<- List.append_assoc,HTD.out])
       have n3:wr.cell? ⟨w.heap.size,3,none⟩=some (.slice (some ⟨fb,fo,none⟩) p.funcs.length cc):=(HX2.bel hbr).at 3 rfl
       have HLT:=hid hlt
       clear hba hcf f3 f4
       generalize p.funcs[k]=q at *
       obtain ⟨hf1,hf2,hf3,hf4,hf5⟩:=hfs
       obtain ⟨y,hy⟩:∃ y,q.nm=y:=⟨_,rfl⟩
       obtain ⟨ps,hps⟩:∃ ps,q.params=ps:=⟨_,rfl⟩
       obtain ⟨cd',hcd⟩:∃ c,q.code=c:=⟨_,rfl⟩
       rw [hy] at f0 HSN hf1
       rw [hps] at f1 HSN hf2 hf3 hpar
       rw [hcd] at f2 HSN hf4 hf5 hcode hqi hqn
       obtain ⟨nP,hnP⟩:∃ n,ps.length=n:=⟨_,rfl⟩
       obtain ⟨nC,hnC⟩:∃ n,cd'.length=n:=⟨_,rfl⟩
       rw [hnP] at f1 hpar
       rw [hnC] at f2 hcode
       have HNP:=hid (show ps.length<=32 from hf3)
       have HF0:=hid ((HB2.cell (p:=⟨fb,fo+k*5,none⟩) hRf).trans f0)
       have HF1:=hid ((HB2.cell (p:=⟨fb,fo+k*5+1,none⟩) hRf).trans f1)
       have HF2:=hid ((HB2.cell (p:=⟨fb,fo+k*5+2,none⟩) hRf).trans f2)
       have HRf:=hid (Nat.lt_of_lt_of_le hRf HB2.size)
       have HPS:=hid (hpar.below HB2.out)
       have HCO:=hid (hcode.below HB2.out)
       have HQI:=hid (show ∀ x ∈ cd',x.op<=255/\x.dst.length<=140737488355328/\x.nm.length<=140737488355328/\(∀ a ∈ x.args,a.nm.length<=140737488355328)/\∀ a ∈ x.args,a.num<18446744073709551616 from fun x hx=>⟨(hqi x hx).1,(hqi x hx).2.1,(hqi x hx).2.2.1,(hqi x hx).2.2.2,fun a ha=>by have h:a.num<=18446744073709551615:=hqn x hx a ha;omega⟩)
       have HC4:=hid (show cd'.length<=100000 from by omega)
       have HBE:=hid hf5
       have HBL:=hid (show (bodyT cd').length<=2000 from by rw [<- hf5,List.length_append];unfold instrLs;rw [List.length_map];simp;omega)
       have HJL:=hid (show (wFunc :: y :: ps).length<=1000 from by simp;omega)
       have HJS:=hid (show ∀ s ∈ wFunc :: y :: ps,s.length<=1000 from fun s hs=>by
        rcases List.mem_cons.1 hs with rfl | hs
        ·decide
        rcases List.mem_cons.1 hs with rfl | hs
        ·omega
        ·have:=hf2 s hs;omega)
       have HGD:=hid (hga.keep (Below.refl wr.heap.size wr).drew)
       clear hy hps hcd hnP hnC f0 f1 f2 hRf hpar hcode hqi hqn hf1 hf2 hf3 hf4 hf5 hbr hga
       go_upto_region 16 with fail
       have hS:(fun W=>W.cell? ⟨w.heap.size,3,none⟩=some (.slice (some ⟨fb,fo,none⟩) p.funcs.length cc)/\W.cell? ⟨fb,fo+k*5,none⟩=some (.string ⟨y.toArray⟩)/\W.cell? ⟨fb,fo+k*5+1,none⟩=some (.slice pp nP cp)) wr.drew:=⟨(HX2.bel HBr.drew).at 3 rfl,(HBr.drew.cell (p:=⟨fb,fo+k*5,none⟩) HRf.out).trans HF0.out,(HBr.drew.cell (p:=⟨fb,fo+k*5+1,none⟩) HRf.out).trans HF1.out⟩
       have hk2:=HLT.out
       clear n3
       have hFa:=fT
       refine rgN (fun W=>W.cell? ⟨w.heap.size,3,none⟩=some (.slice (some ⟨fb,fo,none⟩) p.funcs.length cc)/\W.cell? ⟨fb,fo+k*5,none⟩=some (.string ⟨y.toArray⟩)/\W.cell? ⟨fb,fo+k*5+1,none⟩=some (.slice pp nP cp)) 18 (by kernel_rfl) ?_
       simp only [zP,Nat.reduceAdd]
       iterate 2 (refine npW (v:=?_) 19 (.inr hS) ?_ ?_;rotate_left;(focus intro w' _;go_simp;try rfl);simp only [aP])
       refine wpHJ_take (v:=?v7) 2 hFa rfl (by kernel_rfl) nE (Or.inl ⟨by rfl,?y7⟩) hS ?r7
       case y7=>(rintro w' ⟨s0,s1,s2⟩;go_simp;try rfl)
       simp only [aP]
       iterate 3 (refine npW (v:=?_) 19 (.inr hS) ?_ ?_;rotate_left;(focus intro w' _;go_simp;try rfl);simp only [aP])
       refine wpHJ_take (v:=?v8) 6 hFa rfl (by kernel_rfl) nE (Or.inl ⟨by rfl,?y8⟩) hS ?r8
       case y8=>(rintro w' ⟨s0,s1,s2⟩;go_simp;try rfl)
       simp only [aP]
       refine wpHJ_pure (v:=?v9) 8 hFa rfl (by kernel_rfl) nE (Or.inl ⟨by rfl,?y9⟩) (.inr hS) ?r9
       case y9=>(intro w' _;go_simp;try rfl)
       simp only [aP]
       refine wpHJ_take (v:=?va) 9 hFa rfl (by kernel_rfl) nE (Or.inl ⟨by rfl,?ya⟩) hS ?ra
       case ya=>(rintro w' ⟨s0,s1,s2⟩;go_simp;try rfl)
       simp only [aP]
       iterate 3 (refine npW (v:=?_) 20 (.inr hS) ?_ ?_;rotate_left;(focus intro w' _;go_simp;try rfl);simp only [aP])
       refine wpHJ_take (v:=?v6) 13 hFa rfl (by kernel_rfl) nE (Or.inl ⟨by rfl,?y6⟩) hS ?r6
       case y6=>(rintro w' ⟨s0,s1,s2⟩;go_simp;try rfl)
       simp only [aP]
       refine oy 7 fun K hK=>?_
       go_simp
       have HBl:=hid (HBr.drew.alloc HBr.drew.size (.cells #[.string ⟨#[102,117,110,99]⟩,.string ⟨y.toArray⟩] 9))
       have HGl:=hid (HGD.keep ((Below.refl wr.drew.heap.size wr.drew).alloc lrf (.cells #[.string ⟨#[102,117,110,99]⟩,.string ⟨y.toArray⟩] 9)))
       have HLl:=hid (GA.litS (B:=wr.heap.size) wr.drew 9 [wFunc,y] (by simp) (by simp) lrf)
       have HPl:=hid (HPS.keep (w':=wr.drew.alloc (.cells #[.string ⟨#[102,117,110,99]⟩,.string ⟨y.toArray⟩] 9)) (R':=(·<w2.heap.size)) fun q hq=>⟨hq,(HBl.block q hq).trans rfl⟩)
       have hSl:(fun W=>W.cell? ⟨w.heap.size,3,none⟩=some (.slice (some ⟨fb,fo,none⟩) p.funcs.length cc)/\W.cell? ⟨fb,fo+k*5,none⟩=some (.string ⟨y.toArray⟩)/\W.cell? ⟨fb,fo+k*5+1,none⟩=some (.slice pp nP cp)) (wr.drew.alloc (.cells #[.string ⟨#[102,117,110,99]⟩,.string ⟨y.toArray⟩] 9)):=⟨(HX2.bel HBl.out).at 3 rfl,(HBl.cell (p:=⟨fb,fo+k*5,none⟩) HRf.out).trans HF0.out,(HBl.cell (p:=⟨fb,fo+k*5+1,none⟩) HRf.out).trans HF1.out⟩
       refine hK _ _ (.inr (.inr hSl)) ?_
       clear hK K
       refine oy 14 fun K hK=>?_
       refine wpIn_catS hFa (.tmp 83) (.tmp 89) 22 rfl Tryz.underlying22 info_strG HLl.out HPl.out (by rfl) (by rfl) (by have:=HNP.out;simp;omega) (by simp only [World.size_drew,sA];omega) ?_
       intro v5 w5 hg5 hb5 hz5 hk5
       simp only [aP]
       obtain ⟨J,hJ⟩:∃ J,[wFunc,y]++ps=J:=⟨_,rfl⟩
       rw [hJ] at hg5
       have HJ:=hid (show J=wFunc :: y :: ps from by rw [<- hJ];simp)
       obtain ⟨p5,c5,rfl⟩:=hg5.slc
       have HJN:=hid (show SlG kStr (·<w5.heap.size) w5 (.slice p5 J.length c5) J from hg5.sl (by rw [<- hJ,List.length_append];have:=HNP.out;simp;omega))
       clear hJ
       have HB5:=hid (HBl.trans (hb5.mono HBr.size))
       have HG5:=hid (HGr.keep ((((Below.refl wr.heap.size wr).drew).alloc lrf (.cells #[.string ⟨#[102,117,110,99]⟩,.string ⟨y.toArray⟩] 9)).trans hb5))
       clear hg5 hb5 hz5 hk5
       have hS5:(fun W=>W.cell? ⟨w.heap.size,3,none⟩=some (.slice (some ⟨fb,fo,none⟩) p.funcs.length cc)/\W.cell? ⟨fb,fo+k*5,none⟩=some (.string ⟨y.toArray⟩)/\W.cell? ⟨fb,fo+k*5+1,none⟩=some (.slice pp nP cp)) w5:=⟨(HX2.bel HB5.out).at 3 rfl,(HB5.cell (p:=⟨fb,fo+k*5,none⟩) HRf.out).trans HF0.out,(HB5.cell (p:=⟨fb,fo+k*5+1,none⟩) HRf.out).trans HF1.out⟩
       refine hK _ _ (.inr (.inr hS5)) ?_
       clear hK K
       refine oy 15 fun K hK=>?_
       go_simp
       (with_reducible refine (callsIn_wide.2 (rjoin_any J _ _ w5 HJN.out (by rw [show J=wFunc :: y :: ps from HJ.out];exact HJL.out) (by rw [show J=wFunc :: y :: ps from HJ.out];exact HJS.out))).mono ?_)
       rintro e w6 ⟨rfl,hb6⟩
       rw [show J=wFunc :: y :: ps from HJ.out]
       have HB6:=hid (HB5.trans (hb6.mono HB5.size))
       have HG6:=hid (HG5.keep hb6)
       clear hb6
       have hS6:(fun W=>W.cell? ⟨w.heap.size,3,none⟩=some (.slice (some ⟨fb,fo,none⟩) p.funcs.length cc)/\W.cell? ⟨fb,fo+k*5,none⟩=some (.string ⟨y.toArray⟩)/\W.cell? ⟨fb,fo+k*5+1,none⟩=some (.slice pp nP cp)) w6:=⟨(HX2.bel HB6.out).at 3 rfl,(HB6.cell (p:=⟨fb,fo+k*5,none⟩) HRf.out).trans HF0.out,(HB6.cell (p:=⟨fb,fo+k*5+1,none⟩) HRf.out).trans HF1.out⟩
       refine hK _ _ (.inr (.inr hS6)) ?_
       clear hK K
       refine oy 16 fun K hK=>?_
       go_simp
       have HBa:=hid (HB6.alloc HB6.size (.cells #[.string ⟨(jn (wFunc :: y :: ps)).toArray⟩] 9))
       have HGa:=hid (HG6.keep ((Below.refl w6.heap.size w6).alloc lrf (.cells #[.string ⟨(jn (wFunc :: y :: ps)).toArray⟩] 9)))
       have hSa:(fun W=>W.cell? ⟨w.heap.size,3,none⟩=some (.slice (some ⟨fb,fo,none⟩) p.funcs.length cc)/\W.cell? ⟨fb,fo+k*5,none⟩=some (.string ⟨y.toArray⟩)/\W.cell? ⟨fb,fo+k*5+1,none⟩=some (.slice pp nP cp)) (w6.alloc (.cells #[.string ⟨(jn (wFunc :: y :: ps)).toArray⟩] 9)):=⟨(HX2.bel HBa.out).at 3 rfl,(HBa.cell (p:=⟨fb,fo+k*5,none⟩) HRf.out).trans HF0.out,(HBa.cell (p:=⟨fb,fo+k*5+1,none⟩) HRf.out).trans HF1.out⟩
       refine hK _ _ (.inr (.inr hSa)) ?_
       clear hK K
       refine oy 17 fun K hK=>?_
       refine wpIn_catS hFa (.tmp 76) (.tmp 92) 22 rfl Tryz.underlying22 info_strG HGa.out (SlG.one1 w6 (jn (wFunc :: y :: ps)) 9) (by rfl) (by rfl) (by have:=HCL.out;simp;omega) HBa.size ?_
       intro v7 w7 hg7 hb7 hz7 hk7
       simp only [aP]
       obtain ⟨T2,hT2⟩:∃ T2,T++[jn (wFunc :: y :: ps)]=T2:=⟨_,rfl⟩
       rw [hT2] at hg7
       have HTT2:=hid hT2
       obtain ⟨p7,c7,rfl⟩:=hg7.slc
       have HG7:=hid hg7
       have HB7:=hid (HBa.trans hb7)
       clear hg7 hb7 hz7 hk7 hT2
       have hS7:(fun W=>W.cell? ⟨w.heap.size,3,none⟩=some (.slice (some ⟨fb,fo,none⟩) p.funcs.length cc)/\W.cell? ⟨fb,fo+k*5,none⟩=some (.string ⟨y.toArray⟩)/\W.cell? ⟨fb,fo+k*5+1,none⟩=some (.slice pp nP cp)) w7:=⟨(HX2.bel HB7.out).at 3 rfl,(HB7.cell (p:=⟨fb,fo+k*5,none⟩) HRf.out).trans HF0.out,(HB7.cell (p:=⟨fb,fo+k*5+1,none⟩) HRf.out).trans HF1.out⟩
       refine hK _ _ (.inr (.inr hS7)) ?_
       clear hK K
       refine oy 18 fun K hK=>?_
       go_simp
       refine hK _ _ (.inl rfl) (dN ?_)
       clear hK K
       simp only [onlyN,Exit.then]
       clear hFa
       clear hS hSl hS5 hS6 hSa hS7
       have n3:w7.cell? ⟨w.heap.size,3,none⟩=some (.slice (some ⟨fb,fo,none⟩) p.funcs.length cc):=(HX2.bel HB7.out).at 3 rfl
       have e2:=(HB7.cell (p:=⟨fb,fo+k*5+2,none⟩) HRf.out).trans HF2.out
       have HT2:=hid (show T2.length<=41001 from by rw [<- HTT2.out,List.length_append];have:=HCL.out;simp;omega)
       have HGT:=HG7
       rw [HTT2.out] at HSN
       have HB8C:=hid (rbody24_any cd' _ w7 (HCO.below HB7.out) HC4.out HQI.out)
       rw [HBE.out] at HB8C
       go_wp2_with (first
        | (go_at_call 54;(with_reducible refine HB8C.out.mono ?_);rintro e w8 ⟨v8,rfl,hg8,hb8⟩;obtain ⟨p8,c8,rfl⟩:=hg8.slc;have HB8:=hid (HB7.out.trans (hb8.mono HB7.out.size));have HG8:=hid (HGT.out.keep hb8);have HBD:=hid (hg8.sl (by have:=HBL.out;omega));clear hg8 hb8 n3 e2)
        | (at_builtin;refine wpList_catS rfl _ _ 22 rfl Tryz.underlying22 info_strG HG8.out HBD.out rfl rfl (by have:=HT2.out;have:=HBL.out;omega) HB8.out.size ?_;intro v9 w9 hg9 hb9;obtain ⟨p9,c9,rfl⟩:=hg9.slc;have HG9:=hid hg9;have HB9:=hid (HB8.out.trans hb9);clear hg9 hb9))
       go_roundw
       case rel=>exact ⟨k+1,HLT.out,by first | (rw [wrap_next HLT.out (by have:=HV.nfs;omega)]) | rfl,by rw [HSN.out];have h:=HG9.out;rw [List.length_append] at h;exact h,HB9.out⟩
       case measure=>first | exact meas_next HLT.out (by have:=HV.nfs;omega) | (have h1:=HLT.out;simp [intOf];omega)
      ·obtain rfl:k=p.funcs.length:=by omega
       obtain ⟨wi,rfl⟩:∃ wi:World,wi=wr:=⟨_,rfl⟩
       obtain ⟨L,hL⟩:∃ L,linesT p=L:=⟨_,rfl⟩
       have HLE:=hid (show T++[wMain]++bodyT p.main=L from by rw [<- HTD.out,<- hL,lines_eq,<- HF0.out,<- HA0.out,List.take_length];simp [List.append_assoc])
       rw [hL] at HLL HPM
       clear hL
       have n3:wi.cell? ⟨w.heap.size,3,none⟩=some (.slice pc p.funcs.length cc):=(HX2.bel hbr).at 3 rfl
       have HMA:=hid (HP.2.2.2.below HB2.out)
       have HVM:=hid HV.main
       have HML:=hid (show p.main.length<=100000 from by have:=HV.nmain;omega)
       have HML2:=hid (show (bodyT p.main).length<=2000 from by rw [<- HV.main,List.length_append];unfold instrLs;rw [List.length_map];have:=HV.nmain;simp;omega)
       have HMQ:=hid (show ∀ x ∈ p.main,x.op<=255/\x.dst.length<=140737488355328/\x.nm.length<=140737488355328/\(∀ a ∈ x.args,a.nm.length<=140737488355328)/\∀ a ∈ x.args,a.num<18446744073709551616 from fun x hx=>by
        have hba:bodyAt p p.funcs.length=p.main:=by unfold bodyAt;rw [dif_neg (by omega)]
        have h:=HL.ins p.funcs.length x (by rw [hba];exact hx)
        exact ⟨h.1,h.2.1,h.2.2.1,h.2.2.2,fun a ha=>by have h:a.num<=18446744073709551615:=HNU.main x hx a ha;omega⟩)
       have HGD:=hid (hga.keep (Below.refl wi.heap.size wi).drew)
       clear hlt hbr hga HTD
       go_upto_region 18 with fail
       clear n3
       have hS:(fun W=>W.cell? ⟨w.heap.size,4,none⟩=some (.slice pd p.main.length cd)) wi.drew:=(HX2.bel HBr.drew).at 4 rfl
       have hFa:=fT
       refine rgN (fun W=>W.cell? ⟨w.heap.size,4,none⟩=some (.slice pd p.main.length cd)) 7 (by kernel_rfl) ?_
       simp only [zP,Nat.reduceAdd]
       refine wpHJ_pure (v:=?vb) 0 hFa rfl (by kernel_rfl) nE (Or.inl ⟨by rfl,?yb⟩) (.inr hS) ?rb
       case yb=>(intro w' _;go_simp;try rfl)
       simp only [aP]
       refine wpHJ_pure (v:=?vc) 3 hFa rfl (by kernel_rfl) nE (Or.inl ⟨by rfl,?yc⟩) (.inr hS) ?rc
       case yc=>(intro w' _;go_simp;try rfl)
       simp only [aP]
       refine wpHJ_take (v:=?vd) 4 hFa rfl (by kernel_rfl) nE (Or.inl ⟨by rfl,?yd⟩) hS ?rd
       case yd=>(rintro w' s0;go_simp;try rfl)
       simp only [aP]
       refine oy 1 fun K hK=>?_
       go_simp
       have HBl:=hid (HBr.drew.alloc HBr.drew.size (.cells #[.string ⟨#[109,97,105,110]⟩] 9))
       have HGl:=hid (HGD.keep ((Below.refl wi.drew.heap.size wi.drew).alloc lrf (.cells #[.string ⟨#[109,97,105,110]⟩] 9)))
       have hSl:(fun W=>W.cell? ⟨w.heap.size,4,none⟩=some (.slice pd p.main.length cd)) (wi.drew.alloc (.cells #[.string ⟨#[109,97,105,110]⟩] 9)):=(HX2.bel HBl.out).at 4 rfl
       refine hK _ _ (.inr (.inr hSl)) ?_
       clear hK K
       refine oy 2 fun K hK=>?_
       refine wpIn_catS hFa (.tmp 103) (.tmp 104) 22 rfl Tryz.underlying22 info_strG HGl.out (SlG.one1 wi.drew wMain 9) (by rfl) (by rfl) (by have:=HCL.out;simp;omega) HBl.size ?_
       intro v5 w5 hg5 hb5 hz5 hk5
       simp only [aP]
       obtain ⟨T1,hT1⟩:∃ T1,T++[wMain]=T1:=⟨_,rfl⟩
       rw [hT1] at hg5
       have HT1:=hid hT1
       have HTL:=hid (show T1.length<=42000 from by rw [<- hT1,List.length_append];have:=HCL.out;simp;omega)
       obtain ⟨p5,c5,rfl⟩:=hg5.slc
       have HG5:=hid hg5
       have HB5:=hid (HBl.trans hb5)
       clear hg5 hb5 hz5 hk5 hT1
       have hS5:(fun W=>W.cell? ⟨w.heap.size,4,none⟩=some (.slice pd p.main.length cd)) w5:=(HX2.bel HB5.out).at 4 rfl
       have HMN:=hid (HMA.below HB5.out)
       refine hK _ _ (.inr (.inr hS5)) ?_
       clear hK K
       refine oy 5 fun K hK=>?_
       go_simp
       (with_reducible refine (callsIn_wide.2 (rbody24_any p.main _ w5 HMN.out HML.out HMQ.out)).mono ?_)
       rintro e w6 ⟨v6,rfl,hg6,hb6⟩
       rw [HVM.out] at hg6
       obtain ⟨p6,c6,rfl⟩:=hg6.slc
       have HB6:=hid (HB5.trans (hb6.mono HB5.size))
       have HG6:=hid (HG5.keep hb6)
       have HBD:=hid (hg6.sl (by have:=HML2.out;omega))
       clear hg6 hb6
       have hS6:(fun W=>W.cell? ⟨w.heap.size,4,none⟩=some (.slice pd p.main.length cd)) w6:=(HX2.bel HB6.out).at 4 rfl
       refine hK _ _ (.inr (.inr hS6)) ?_
       clear hK K
       refine oy 6 fun K hK=>?_
       refine wpIn_catS hFa (.tmp 105) (.tmp 108) 22 rfl Tryz.underlying22 info_strG HG6.out HBD.out (by rfl) (by rfl) (by have:=HTL.out;have:=HML2.out;omega) HB6.size ?_
       intro v7 w7 hg7 hb7 hz7 hk7
       simp only [aP]
       rw [<- HT1.out,HLE.out] at hg7
       obtain ⟨p7,c7,rfl⟩:=hg7.slc
       have HG7:=hid hg7
       have HB7:=hid (HB6.trans hb7)
       clear hg7 hb7 hz7 hk7
       have hS7:(fun W=>W.cell? ⟨w.heap.size,4,none⟩=some (.slice pd p.main.length cd)) w7:=(HX2.bel HB7.out).at 4 rfl
       refine hK _ _ (.inr (.inr hS7)) ?_
       clear hK K
       refine oy 7 fun K hK=>?_
       go_simp
       refine hK _ _ (.inl rfl) (dN ?_)
       clear hK K
       simp only [onlyN,Exit.then]
       clear hFa
       clear hS hSl hS5 hS6 hS7
       have HLS:=hid (HG7.sl (by have:=HLL.1;omega))
       obtain ⟨iu,hiu,hzu,hsu,hbu⟩:=info_parts info_u8P
       have HT0:=hid (show ∀ k,(textT (L.take k)).length<=100000000 from fun k=>by
        have h1:=textT_len (L.take k) 2000 fun s hs=>HLL.2 s (List.mem_of_mem_take hs)
        have h2:(L.take k).length<=40000:=by rw [List.length_take];have:=HLL.1;omega
        have h3:(L.take k).length*2001<=40000*2001:=Nat.mul_le_mul_right _ h2
        omega)
       go_wp2_with fail
       go_loopw [10,11] (fun ov iv ws=>∃ k:Nat,k<=L.length/\iv=.int .i64 (k:Int)/\ws.ownsRow w7.heap.size 5 1 ov (textT (L.take k)).length (Lib.byteCells (textT (L.take k)))/\Below w7.heap.size w7 ws) (fun _ iv _=>L.length - (intOf iv).toNat)
       case atStart=>exact ⟨0,Nat.zero_le _,rfl,World.ownsRow_nil _ _ _ _,Below.refl _ _⟩
       case round =>
        obtain ⟨k,hk,rfl,how,hbr⟩:=hrel
        obtain ⟨X,hX⟩:∃ X,textT (L.take k)=X:=⟨_,rfl⟩
        obtain ⟨N,hN⟩:∃ N,X.length=N:=⟨_,rfl⟩
        have HN:=hid hN
        have HNB:=hid (show N<=100000000 from by rw [<- hN,<- hX];exact HT0.out k)
        rw [hX,hN] at how
        have HX3:=hid hX
        obtain ⟨po,co,rfl⟩:=own_sliceG how
        have HOW:=hid how;have HBR:=hid hbr
        by_cases hlt:k<L.length
        ·obtain ⟨lb,lo,rfl,hRl,hcl⟩:=str_at HLS.out (by omega:0<L.length)
         have d0:=(hbr.cell (p:=⟨lb,lo+k,none⟩) hRl).trans (hcl k hlt)
         have HSN:=hid (show textT (L.take (k+1))=X++L[k]++[10] from by rw [text_next _ _ hlt,hX])
         have HYL:=hid (HLL.2 _ (List.getElem_mem hlt))
         have HLT:=hid hlt
         clear hcl hRl hbr how hX hN
         generalize L[k]=y at *
         go_wp2_with (first
          | (at_builtin;refine Lib.wpList_append_own_string _ rfl _ _ 51 9 rfl w7.heap.size 5 iu Tryz.underlying51 Tryz.underlying9 hiu hzu hsu hbu _ N (Lib.byteCells X) rfl HOW.out ⟨y.toArray⟩ rfl (by have:=HNB.out;have:=HYL.out;simp [ByteArray.size];unfold maxLen;omega) (by have:=HNB.out;have:=HYL.out;simp [ByteArray.size];omega) HBR.out.size ?_;intro v5 w5 ho5 hg5 hv5;rw [str_cells y,<- text_cells X y,show (⟨y.toArray⟩:ByteArray).size=y.length by simp [ByteArray.size]] at ho5;obtain ⟨p5,c5,rfl⟩:=own_sliceG ho5;have HO5:=hid ho5;have HB5:=hid (HBR.out.grown hg5 HBR.out.size fun k hk=>(HOW.out.lt k hk).1);clear ho5 hg5 hv5)
          | (at_builtin;refine wpList_app (R:=fun _=>True) _ rfl _ _ 51 rfl w7.heap.size 5 _ 1 Tryz.underlying51 info_u8P rfl _ (N+y.length) (Lib.byteCells (X++y)) rfl (HO5.out.alloc _) (some ⟨w5.heap.size,0,none⟩) 1 1 [.int .u8 10] rfl rfl (RowR.lit w5 [.int .u8 10] 5 trivial) (by simp [Value.oneCell']) (by have:=HNB.out;have:=HYL.out;omega) (by have:=HNB.out;have:=HYL.out;unfold maxLen;omega) (by rw [sA];have:=HB5.out.size;omega) ?_;intro v6 w6 ho6 hg6 hv6;rw [show Lib.byteCells (X++y)++[Value.int .u8 10]=Lib.byteCells (X++y++[10]) by rw [text_cells (X++y)];rfl] at ho6;obtain ⟨p6,c6,rfl⟩:=own_sliceG ho6;have HO6:=hid ho6;have HB6:=hid ((HB5.out.alloc HB5.out.size _).grown hg6 (by rw [sA];have:=HB5.out.size;omega) fun k hk=>(HO5.out.lt k hk).1);clear ho6 hg6 hv6))
         go_roundw
         case rel=>exact ⟨k+1,HLT.out,by first | (rw [wrap_next HLT.out (by have:=HLL.1;omega)]) | rfl,by rw [HSN.out,List.length_append,List.length_append,HN.out];exact HO6.out,HB6.out⟩
         case measure=>first | exact meas_next HLT.out (by have:=HLL.1;omega) | (have h1:=HLT.out;simp [intOf];omega)
        ·obtain rfl:k=L.length:=by omega
         rw [List.take_length] at hX
         have HB9:=hid (HBW.out wr (HB7.trans (hbr.mono HB7.size)))
         clear hlt hbr how
         by_cases hgt:65536<N
         ·have d1:decide ((65536:Int)<(N:Int))=true:=by simp;omega
          have HPR:=hid (show printM p=([],5) from by rw [HPM.out,hX,hN,if_pos hgt])
          clear hgt hX hN
          go_wp2_with fail
          (try simp only [Exit.inBlock,Exit.then])
          refine bodyPost_ret (v := .tuple #[.string ⟨#[]⟩,.int .i64 5]) (by simp [results,Tryz.results15,go_sem]) rfl ?_
          exact ⟨by rw [HPR.out],HB9.out⟩
         ·have d1:decide ((65536:Int)<(N:Int))=false:=by simp;omega
          have HPR:=hid (show printM p=(X,0) from by rw [HPM.out,hX,hN,if_neg hgt])
          have h0:0<N:=by
           rw [<- hN,<- hX,<- HLE.out,textT_app,textT_app,textT_one]
           simp only [List.length_append]
           have:wMain.length=4:=rfl
           omega
          have hcv:=own_text HOW.out hN.symm h0
          clear hgt hX hN h0
          go_wp2_with fail
          (try simp only [Exit.inBlock,Exit.then])
          refine bodyPost_ret (v := .tuple #[.string ⟨X.toArray⟩,.int .i64 0]) (by simp [results,Tryz.results15,go_sem]) rfl ?_
          exact ⟨by rw [HPR.out],HB9.out⟩
end Go.Proofs.YtoofbgoeipijcaaGreatDoor
