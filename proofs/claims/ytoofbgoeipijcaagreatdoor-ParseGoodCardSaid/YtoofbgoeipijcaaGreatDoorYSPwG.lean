/-
 The law ParseGood, where the text is refused: its walk.
-/
import Derived.Test.YtoofbgoeipijcaaGreatDoorYSPyG
namespace Go.Proofs.YtoofbgoeipijcaaGreatDoor
set_option linter.unusedSimpArgs false
set_option linter.unusedVariables false
open Go.RowKit Go.Shelf
attribute [local go_sem] Oper.semAt_some
theorem rows_le:∀ (f:Nat) (s:Bs),s.length<=f->∀ r ∈ rowsNL s,r.length<=s.length:=by
 intro f
 induction f with
 | zero =>
  intro s hf r hr
  obtain rfl:s=[]:=List.eq_nil_of_length_eq_zero (by omega)
  rw [show rowsNL []=[[]] by rw [rowsNL];rfl,List.mem_singleton] at hr
  rw [hr];exact Nat.le_refl _
 | succ f ih =>
  intro s hf r hr
  obtain ⟨h1,h2⟩:=cutNL_le2 s
  rw [rowsNL] at hr
  rcases List.mem_cons.1 hr with hr | hr
  ·rw [hr];exact h1
  ·split at hr
   ·rename_i hm
    exact Nat.le_trans (ih _ (by have:=cutNL_len s hm;omega) r hr) h2
   ·cases hr
theorem rows_cells (s:Bs):Lib.countB ⟨s.toArray⟩ ⟨#[10]⟩+1=(rowsNL s).length/\(Lib.splitB ⟨#[10]⟩ 0 (Lib.countB ⟨s.toArray⟩ ⟨#[10]⟩) ⟨s.toArray⟩).map Value.string=(rowsNL s).map fun r=>Value.string ⟨r.toArray⟩:=by
 have h0:Lib.countB ⟨s.toArray⟩ ⟨#[10]⟩=s.count 10:=by show Lib.count s [10]=_;rw [Lib.count_one]
 refine ⟨?_,?_⟩
 ·rw [h0,(rows_end s.length s lrf).1];omega
 ·rw [h0]
  have h1:=Lib.splitB_data ⟨#[10]⟩ 0 (s.count 10) ⟨s.toArray⟩
  have h2:(Lib.splitB ⟨#[10]⟩ 0 (s.count 10) ⟨s.toArray⟩).map (·.data.toList)=rowsNL s:=h1.trans (splitK_nl (s.count 10) s lrf)
  have h3:∀ l:List ByteArray,l.map Value.string=(l.map (·.data.toList)).map fun r:Bs=>Value.string ⟨r.toArray⟩:=fun l=>by rw [List.map_map];exact List.map_congr_left fun x _=>by simp
  rw [h3,h2]
theorem split_any (s:Bs) (m:Int) (w:World) (hs:s.length<=65536) (hm:w.cell? ⟨0,0,none⟩=some (.int .i64 m)):Calls Tryz.prog 33 #[.string ⟨s.toArray⟩,.string ⟨#[10]⟩] w fun e w'=>e = .returned (.slice (some ⟨w.heap.size,0,none⟩) (rowsNL s).length (rowsNL s).length)/\BxL 9 w.heap.size ((rowsNL s).map fun r=>Value.string ⟨r.toArray⟩) w'/\Below w.heap.size w w':=by
 refine (Tryz.strings_Split ⟨s.toArray⟩ ⟨#[10]⟩ m w (by show s.length<_;omega) hm (by decide)).mono ?_
 rintro e w' ⟨rfl,rfl⟩
 obtain ⟨h1,h2⟩:=rows_cells s
 rw [h1,h2]
 exact ⟨rfl,BxL.new _ _ _,bA⟩
set_option maxRecDepth 100000 in
set_option maxHeartbeats 4000000 in
theorem good_bad (l:Bs) (sb:ByteArray) (m:Int) (w:World) (hE:PrE0 w) (hm:w.cell? ⟨0,0,none⟩=some (.int .i64 m)) (hsb:sb.extract 0 (min (↑sb.size) 3000:Int).toNat=⟨l.toArray⟩) (hl:l.length<=3000) {f:Flt} (hp:parseE l = .error f) :
  Calls Tryz.prog 8 #[.string sb] w fun e w'=>e = .returned (.bool true)/\Below w.heap.size w w':=by
 have HE:=hid hE;have HM:=hid hm
 have HMB:=hid (show ∀ W,Below w.heap.size w W->W.cell? ⟨0,0,none⟩=some (.int .i64 m) from fun W hb=>(hb.cell (p:=⟨_,_,none⟩) (cell_size HM.out)).trans HM.out)
 obtain ⟨⟨j,c,hj,hpos,hcl⟩,hc⟩:=refused_in hp
 obtain ⟨⟨L,C⟩,er⟩:=f
 injection hpos with hL hC
 have HL:=hid hL;have HC:=hid hC
 obtain ⟨J,hJ⟩:∃ J,j=J:=⟨_,rfl⟩
 subst hJ
 obtain ⟨rj,hrj⟩:∃ r,(rowsNL l)[j]'hj=r:=⟨_,rfl⟩
 have HRJ:=hid (show ((rowsNL l).map fun r=>Value.string ⟨r.toArray⟩)[j]?=some (.string ⟨rj.toArray⟩) from by rw [List.getElem?_map,List.getElem?_eq_getElem hj,hrj];rfl)
 have g:(er == 0)=false:=by rw [beq_eq_false_iff_ne];exact hc
 rw [hrj] at hcl
 have HRL:=hid (show rj.length<=3000 from by have h8:=rows_le l.length l lrf rj (by rw [<- hrj];exact List.getElem_mem _);omega)
 obtain ⟨NR,hNR⟩:∃ n,(rowsNL l).length=n:=⟨_,rfl⟩
 have HNR:=hid hNR
 have hjn:j<NR:=by rw [<- hNR];exact hj
 have HJN:=hid hjn;have HCL:=hid hcl
 have HNL:=hid (show NR<=70000 from by rw [<- hNR,(rows_end l.length l lrf).1];have:=List.count_le_length (a:=(10:UInt8)) (l:=l);omega)
 have HPA:=hid (show Calls Tryz.prog 28 #[.string ⟨l.toArray⟩] w (fun e w'=>(∃ p1 c1 p2 c2 p3 c3 p4 c4,e = .returned (.tuple #[.agg #[.int .i64 0,.slice p1 0 c1,.slice p2 0 c2,.slice p3 0 c3,.slice p4 0 c4],.agg #[.int .i64 L,.int .i64 C],.int .i64 er])/\PgV (·<w'.heap.size) w' (.slice p1 0 c1) (.slice p2 0 c2) (.slice p3 0 c3) (.slice p4 0 c4) pg0)/\Below w.heap.size w w') from by
  refine (parse_any l m w HE.out HM.out).mono ?_
  rintro e w' ⟨hb,a,b,c,d,he,hq⟩
  rw [parse_refused hp] at he hq
  obtain ⟨p1,c1,h1⟩:=hq.1.slc
  obtain ⟨p2,c2,h2⟩:=hq.2.1.slc
  obtain ⟨p3,c3,h3⟩:=hq.2.2.1.slc
  obtain ⟨p4,c4,h4⟩:=hq.2.2.2.slc
  subst h1 h2 h3 h4
  exact ⟨⟨p1,c1,p2,c2,p3,c3,p4,c4,he,hq⟩,hb⟩)
 have HLL:=hid hl;have HSB:=hid hsb
 clear hE hm hp hc hL hC hj hrj hcl hNR hjn hl hsb
 go_enter Tryz.func8,Tryz.ntmps8
 go_upto_region 2 with fail
 rw [HSB.out]
 go_upto_region 3 with (go_at_call 28;(with_reducible refine HPA.out.mono ?_);rintro e w1 ⟨⟨p1,c1,p2,c2,p3,c3,p4,c4,rfl,hq⟩,hb⟩;have HB1:=hid hb;have HQ1:=hid hq;clear hb hq)
 obtain ⟨w2,hw2⟩:∃ W,(w1.alloc (.cells #[.int .i64 0,.slice p1 0 c1,.slice p2 0 c2,.slice p3 0 c3,.slice p4 0 c4] 27)).alloc (.cells #[.int .i64 L,.int .i64 C] 39)=W:=⟨_,rfl⟩
 have hb2:Below w1.heap.size w1 w2:=by rw [<- hw2];exact (bA).alloc (by rw [World.size_alloc];omega) _
 have HX2:=hid (show BxL 27 w1.heap.size [.int .i64 0,.slice p1 0 c1,.slice p2 0 c2,.slice p3 0 c3,.slice p4 0 c4] w2 from by rw [<- hw2];exact (BxL.new _ _ _).al _)
 have HY2:=hid (show BxL 39 (w1.heap.size+1) [.int .i64 L,.int .i64 C] w2 from by rw [<- hw2];have h9:=BxL.new 39 (w1.alloc (.cells #[.int .i64 0,.slice p1 0 c1,.slice p2 0 c2,.slice p3 0 c3,.slice p4 0 c4] 27)) [.int .i64 L,.int .i64 C];rw [World.size_alloc] at h9;exact h9)
 rw [hw2]
 have HB2:=hid (HB1.trans (hb2.mono HB1.size));have HQ2:=hid (HQ1.below hb2)
 clear hb2 hw2
 have HSP:=hid (split_any l m w2 (by have:=HLL.out;omega) (HMB.out _ HB2.out))
 rw [HNR.out] at HSP
 go_upto_region 5 with (go_at_call 33;(with_reducible refine HSP.out.mono ?_);rintro e w3 ⟨rfl,hz,hb⟩;have HB3:=hid (HB2.out.trans (hb.mono HB2.out.size));have HX3:=hid (HX2.out.bel hb);have HY3:=hid (HY2.out.bel hb);have HZ3:=hid hz;have HQ3:=hid (HQ2.out.below hb);clear hb hz)
 have hrow:∀ {W:World},BxL 9 w2.heap.size ((rowsNL l).map fun r=>Value.string ⟨r.toArray⟩) W->W.cell? ⟨w2.heap.size,j,none⟩=some (.string ⟨rj.toArray⟩):=fun h=>h.at j HRJ.out
 have HEQ:=hid (show Calls Tryz.prog 16 #[.agg #[.int .i64 0,.slice p1 0 c1,.slice p2 0 c2,.slice p3 0 c3,.slice p4 0 c4],.agg #[.int .i64 0,.slice none 0 0,.slice none 0 0,.slice none 0 0,.slice none 0 0]] w3.drew (fun e w'=>e = .returned (.bool true)/\Below w3.drew.heap.size w3.drew w') from eqprog_same pg0 _ _ _ _ _ _ _ _ w3.drew (HQ3.below (Below.refl _ _).drew) PgV.zero)
 have e1:decide (1<=L)=true:=decide_eq_true (by have:=HL.out;omega)
 have e2:decide (L<=(NR:Int))=true:=decide_eq_true (by have:=HL.out;have:=HJN.out;omega)
 have e3:decide (1<=C)=true:=decide_eq_true (by have:=HC.out;omega)
 obtain ⟨RL,hRL⟩:∃ n,rj.length=n:=⟨_,rfl⟩
 rw [hRL] at HRL
 have e7:IntKind.i64.wrap ((RL:Int)+1)=(RL:Int)+1:=IntWalk.i64_in _ (by have:=HRL.out;omega)
 have e4:decide (C<=(RL:Int)+1)=true:=decide_eq_true (by have:=HC.out;have:=HCL.out;omega)
 have e6:IntKind.i64.wrap (L - 1)=(j:Int):=by have:=HL.out;rw [show L - 1=(j:Int) by omega];exact IntWalk.i64_in _ (by have:=HJN.out;have:=HNL.out;omega)
 have hjn:=HJN.out
 have hjz:(0:Int)<=(j:Int):=Int.natCast_nonneg j
 have e5:min L (NR:Int)=L:=by have:=HL.out;have:=HJN.out;omega
 have hS:(fun W:World=>W.cell? ⟨w1.heap.size,0,none⟩=some (.int .i64 0)/\W.cell? ⟨w1.heap.size,1,none⟩=some (.slice p1 0 c1)/\W.cell? ⟨w1.heap.size,2,none⟩=some (.slice p2 0 c2)/\W.cell? ⟨w1.heap.size,3,none⟩=some (.slice p3 0 c3)/\W.cell? ⟨w1.heap.size,4,none⟩=some (.slice p4 0 c4)/\W.cell? ⟨(w1.heap.size+1),0,none⟩=some (.int .i64 L)/\W.cell? ⟨(w1.heap.size+1),1,none⟩=some (.int .i64 C)/\W.cell? ⟨w2.heap.size,j,none⟩=some (.string ⟨rj.toArray⟩)) w3.drew:=⟨HX3.dr.at 0 rfl,HX3.dr.at 1 rfl,HX3.dr.at 2 rfl,HX3.dr.at 3 rfl,HX3.dr.at 4 rfl,HY3.dr.at 0 rfl,HY3.dr.at 1 rfl,hrow HZ3.dr⟩
 have hFa:=fT
 refine rgN (fun W:World=>W.cell? ⟨w1.heap.size,0,none⟩=some (.int .i64 0)/\W.cell? ⟨w1.heap.size,1,none⟩=some (.slice p1 0 c1)/\W.cell? ⟨w1.heap.size,2,none⟩=some (.slice p2 0 c2)/\W.cell? ⟨w1.heap.size,3,none⟩=some (.slice p3 0 c3)/\W.cell? ⟨w1.heap.size,4,none⟩=some (.slice p4 0 c4)/\W.cell? ⟨(w1.heap.size+1),0,none⟩=some (.int .i64 L)/\W.cell? ⟨(w1.heap.size+1),1,none⟩=some (.int .i64 C)/\W.cell? ⟨w2.heap.size,j,none⟩=some (.string ⟨rj.toArray⟩)) 40 (by kernel_rfl) ?_
 simp only [zP,Nat.reduceAdd]
 iterate 2 (refine nxW (v:=?_) 40 rfl rfl nE hS ?_ ?_;rotate_left;(focus rintro w' ⟨s0,s1,s2,s3,s4,s5,s6,s7⟩;(try go_simp);try rfl);simp only [aP])
 refine wpHJ_only 2 (by kernel_rfl) rfl (fun K hK=>?_)
 go_simp
 (with_reducible refine (callsIn_wide.2 (HEQ.out)).mono ?_)
 rintro e w4 ⟨rfl,hb⟩
 have HB4:=hid (HB3.drew.trans (hb.mono HB3.size))
 have HX4:=hid (HX3.dr.bel hb);have HY4:=hid (HY3.dr.bel hb);have HZ4:=hid (HZ3.dr.bel hb)
 have hS4:(fun W:World=>W.cell? ⟨w1.heap.size,0,none⟩=some (.int .i64 0)/\W.cell? ⟨w1.heap.size,1,none⟩=some (.slice p1 0 c1)/\W.cell? ⟨w1.heap.size,2,none⟩=some (.slice p2 0 c2)/\W.cell? ⟨w1.heap.size,3,none⟩=some (.slice p3 0 c3)/\W.cell? ⟨w1.heap.size,4,none⟩=some (.slice p4 0 c4)/\W.cell? ⟨(w1.heap.size+1),0,none⟩=some (.int .i64 L)/\W.cell? ⟨(w1.heap.size+1),1,none⟩=some (.int .i64 C)/\W.cell? ⟨w2.heap.size,j,none⟩=some (.string ⟨rj.toArray⟩)) w4:=⟨HX4.at 0 rfl,HX4.at 1 rfl,HX4.at 2 rfl,HX4.at 3 rfl,HX4.at 4 rfl,HY4.at 0 rfl,HY4.at 1 rfl,hrow HZ4.out⟩
 clear hb hS
 refine hK _ _ (.inr (.inr hS4)) ?_
 clear hK K
 iterate 34 (refine wpHJ_nx (v:=?_) 40 rfl rfl (by kernel_rfl) nE hS4 ?_ ?_;rotate_left;(focus refine Or.inl ⟨by simp [Region.wanted,yielded,undef],?_⟩;rintro w' ⟨s0,s1,s2,s3,s4,s5,s6,s7⟩;(try go_simp);try rfl);simp only [aP])
 refine wpHJ_only 37 (by kernel_rfl) rfl (fun K hK=>?_)
 rw [if_pos (by simp [Region.wanted,yielded,undef])]
 go_simp
 (with_reducible refine (callsIn_wide.2 (awake23_any m w4 (HE.out.below HB4.out) (HMB.out _ HB4.out))).mono ?_)
 rintro e w5 ⟨rfl,hb⟩
 have HB5:=hid (HB4.trans (hb.mono HB4.size))
 have hS5:(fun W:World=>W.cell? ⟨w1.heap.size,0,none⟩=some (.int .i64 0)/\W.cell? ⟨w1.heap.size,1,none⟩=some (.slice p1 0 c1)/\W.cell? ⟨w1.heap.size,2,none⟩=some (.slice p2 0 c2)/\W.cell? ⟨w1.heap.size,3,none⟩=some (.slice p3 0 c3)/\W.cell? ⟨w1.heap.size,4,none⟩=some (.slice p4 0 c4)/\W.cell? ⟨(w1.heap.size+1),0,none⟩=some (.int .i64 L)/\W.cell? ⟨(w1.heap.size+1),1,none⟩=some (.int .i64 C)/\W.cell? ⟨w2.heap.size,j,none⟩=some (.string ⟨rj.toArray⟩)) w5:=⟨(HX4.bel hb).at 0 rfl,(HX4.bel hb).at 1 rfl,(HX4.bel hb).at 2 rfl,(HX4.bel hb).at 3 rfl,(HX4.bel hb).at 4 rfl,(HY4.bel hb).at 0 rfl,(HY4.bel hb).at 1 rfl,hrow (HZ4.bel hb)⟩
 clear hb
 refine hK _ _ (.inr (.inr hS5)) ?_
 clear hK K
 iterate 2 (refine nxW (v:=?_) 40 rfl rfl nE hS5 ?_ ?_;rotate_left;(focus rintro w' ⟨s0,s1,s2,s3,s4,s5,s6,s7⟩;(try go_simp);try rfl);simp only [aP])
 refine wpHJ_done (by kernel_rfl) ?_ _
 simp only [onlyN,Exit.then]
 clear hFa
 go_wp2_with fail
 go_ret
 exact ⟨rfl,HB5.out⟩
end Go.Proofs.YtoofbgoeipijcaaGreatDoor
