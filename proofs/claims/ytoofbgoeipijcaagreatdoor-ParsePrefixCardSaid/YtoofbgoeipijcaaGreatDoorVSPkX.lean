/-
 A part.
-/
import Derived.Test.YtoofbgoeipijcaaGreatDoorVB13
namespace Go.Proofs.YtoofbgoeipijcaaGreatDoor
set_option linter.all false
open Go.RowKit Go.Shelf
attribute [local go_sem] Oper.semAt_some
theorem upd_self (O:Nat->Value) (j:Nat):upd O j (O j)=O:=by
 funext i
 unfold upd
 split
 ·subst i;rfl
 ·rfl
theorem GR.slb {R:Nat->Prop} {b e:Nat} {w:World} {v:Value} {l:List Bs} (h:GR kStr R b e w v l) (hl:l.length<=5000) (hne:v.ownBlock ≠ some b):SlG kStr (fun i=>i<w.heap.size/\i ≠ b) w v l :=
 (GR.sl (GR.str (R':=fun _=>False) h) (by omega)).weaken fun i hi=>by
  rcases hi with hi | hi
  ·exact hi.elim
  ·exact ⟨(h.lt i hi).2,fun e=>hne (e ▸ hi)⟩
theorem Pm.own {B b:Nat} {O:Nat->Value} {pw:Option Addr} {cw:Nat} {ws:List Wd} {S:PS} {k:Nat} {w:World} (h:Pm B b O pw cw ws S k w) (i:Nat):(O i).ownBlock ≠ some b:=fun e=>by have:=(h.rs.ow.lt i b e).1;omega
def SiP (B b:Nat) (O:Nat->Value) (pw:Option Addr) (cw:Nat) (ws:List Wd) (S:PS) (k:Nat) (w:World) (e:Ending) (w':World):Prop :=
 Below B w w'/\((∃ f,siteP (fpos ws) S.sites (ws.drop k)=.error f/\e=.panicked (fltP f))\/∃ s k' v' sites,siteP (fpos ws) S.sites (ws.drop k)=.ok (s,sites,ws.drop k')/\e=.returned (.string ⟨s.toArray⟩)/\sites.length<=32/\Pm B b (upd O 10 v') pw cw ws { S with sites:=sites } k' w'/\Step b O 10 w w'/\Moved w (O 10) v')
theorem siteP_eq {f:Int × Int} {sites:List Bs} {ws:List Wd} {a:Wd} {r:List Wd} (h:nextP f ws=.ok (a,r)) :
  siteP f sites ws=if (sites.contains a.1 || decide (sites.length<32))=true then (if namedB a.1=true then .ok (a.1,(if sites.contains a.1=true then sites else sites++[a.1]),r) else .error (wpos a,4)) else .error (wpos a,5):=by
 unfold siteP
 rw [h]
 simp only [bind,Except.bind,needM]
 cases (sites.contains a.1 || decide (sites.length<32)) <;> cases namedB a.1 <;> simp [pure,Except.pure]
theorem info_str:(Tryz.prog.info? 9).map (fun i=>(i.zero,i.size,i.bytes))=some (some (.string ⟨#[]⟩),kStr.n,16):=by kernel_rfl
theorem Step.trans' {b j:Nat} {O:Nat->Value} {w w1 w2:World} (h:But (fun k=>k=b) w w1) (g:Step b O j w1 w2):Step b O j w w2 :=
 ⟨g.os.trans h.os,g.tape.trans h.tape,g.output.trans h.output,Nat.le_trans h.size g.size,fun k hk hb hne=>(g.block k (Nat.lt_of_lt_of_le hk h.size) hb hne).trans (h.block k hk hb)⟩
theorem GR.neb {α:Type} {K:EK α} {R:Nat->Prop} {b e j:Nat} {O:Nat->Value} {w w':World} {v:Value} {l:List α} (h:GR K R b e w v l) (ho:Owns b O w') (hv:O j=v):v.ownBlock ≠ some b:=fun e=>by have:=(ho.lt j b (by rw [hv];exact e)).1;omega
theorem Pm.grow10 {B b:Nat} {O:Nat->Value} {pw:Option Addr} {cw:Nat} {ws:List Wd} {S:PS} {k:Nat} {w w8 w9:World} {v':Value} {R:Nat->Prop} {l':List Bs} (h:Pm B b O pw cw ws S k w) (hb:Below w.heap.size w w8) (hg:w8.grownBy w9 (O 10).ownBlock) (hm:Moved w8 (O 10) v') (hgr:GR kStr R b 9 w9 v' l') :
  Pm B b (upd O 10 v') pw cw ws { S with sites:=l' } k (w9.setCell ⟨b,10,none⟩ v')/\Step b O 10 w (w9.setCell ⟨b,10,none⟩ v')/\Moved w (O 10) v':=by
 obtain ⟨h1,h2,h3,h4⟩:=h.grow (c:=10) hb hg hm (fun i hi=>(hgr.lt i hi).2)
 refine ⟨⟨⟨((h.rd.box.bel hb).keep (hg.block b (Nat.lt_of_lt_of_le h.lt hb.size) fun e=>h.own 10 e.symm)).set 10 v',h4⟩,⟨h2,h.rs.ch.stay h.rs.ow h1 h3 (by decide),h.rs.ar.stay h.rs.ow h1 h3 (by decide),h.rs.fu.stay h.rs.ow h1 h3 (by decide) (by decide),h.rs.mn.stay h.rs.ow h1 h3 (by decide),h.rs.an.stay h.rs.ow h1 h3 (by decide),h.rs.fn.stay h.rs.ow h1 h3 (by decide),h.rs.lb.stay h.rs.ow h1 h3 (by decide),?_⟩,h.ge,h.le⟩,h1,h3⟩
 rw [upd_eq]
 exact GR.str (GR.keep (R':=fun _=>False) (GR.str (R':=fun _=>False) hgr) (fun k hk=>hk.elim) (fun i hi=>heap_ot (by have:=(hgr.lt i hi).1;intro e;subst e;exact GR.neb hgr h2 (upd_eq O 10 v') hi) _))
theorem Pm.grow9 {B b:Nat} {O:Nat->Value} {pw:Option Addr} {cw:Nat} {ws:List Wd} {S:PS} {k:Nat} {w w8 w9:World} {v':Value} {R:Nat->Prop} {l':List Bs} (h:Pm B b O pw cw ws S k w) (hb:Below w.heap.size w w8) (hg:w8.grownBy w9 (O 9).ownBlock) (hm:Moved w8 (O 9) v') (hgr:GR kStr R b 9 w9 v' l') :
  Pm B b (upd O 9 v') pw cw ws { S with labels:=l' } k (w9.setCell ⟨b,9,none⟩ v')/\Step b O 9 w (w9.setCell ⟨b,9,none⟩ v')/\Moved w (O 9) v':=by
 obtain ⟨h1,h2,h3,h4⟩:=h.grow (c:=9) hb hg hm (fun i hi=>(hgr.lt i hi).2)
 refine ⟨⟨⟨((h.rd.box.bel hb).keep (hg.block b (Nat.lt_of_lt_of_le h.lt hb.size) fun e=>h.own 9 e.symm)).set 9 v',h4⟩,⟨h2,h.rs.ch.stay h.rs.ow h1 h3 (by decide),h.rs.ar.stay h.rs.ow h1 h3 (by decide),h.rs.fu.stay h.rs.ow h1 h3 (by decide) (by decide),h.rs.mn.stay h.rs.ow h1 h3 (by decide),h.rs.an.stay h.rs.ow h1 h3 (by decide),h.rs.fn.stay h.rs.ow h1 h3 (by decide),?_,h.rs.st.stay h.rs.ow h1 h3 (by decide)⟩,h.ge,h.le⟩,h1,h3⟩
 rw [upd_eq]
 exact GR.str (GR.keep (R':=fun _=>False) (GR.str (R':=fun _=>False) hgr) (fun k hk=>hk.elim) (fun i hi=>heap_ot (by have:=(hgr.lt i hi).1;intro e;subst e;exact GR.neb hgr h2 (upd_eq O 9 v') hi) _))
set_option maxRecDepth 100000 in
set_option maxHeartbeats 4000000 in
theorem psite_any {B b:Nat} {O:Nat->Value} {pw:Option Addr} {cw:Nat} {ws:List Wd} {S:PS} {k:Nat} {w:World} (hp:Pm B b O pw cw ws S k w) (hw:WOk ws) (hs:S.sites.length<=32):Calls Tryz.prog 197 #[.pointer (some ⟨b,0,none⟩)] w (SiP B b O pw cw ws S k w):=by
 have hd:=hp.rd
 have hk:=hp.le
 have hB:=hp.ge
 have HPM:=hid hp;have HSL:=hid hs
 obtain ⟨ps,cs,hO⟩:=hp.rs.st.slc
 have HO:=hid hO
 clear hp hs hO
 have HD:=hid hd;have HW:=hid hw;have HBB:=hid hB;have HLE:=hid hk;have HSZ:=hid hd.box.lt
 have HBZ:=hid (show B<=w.heap.size from Nat.le_of_lt (Nat.lt_of_le_of_lt hB hd.box.lt))
 clear hd hw hB hk
 go_enter Tryz.func197,Tryz.ntmps197
 go_upto_region 2 with (go_at_call 144;(with_reducible refine (next_any HD.out HLE.out HW.out HBB.out).mono ?_);rintro e w1 ⟨hb,⟨f1,hm,rfl⟩ | ⟨a,k1,v,hm,hk,rfl,hv,hd,hn⟩⟩;(focus (exact ⟨rfl,((But.refl (fun i=>i=b) w).below HBZ.out (fun i e=>e ▸ HBB.out)).trans hb,.inl ⟨f1,by unfold siteP;rw [hm];rfl,rfl⟩⟩));obtain rfl:v=.agg #[.string ⟨a.1.toArray⟩,.int .i64 (a.2.1:Int),.int .i64 (a.2.2:Int)]:=hv)
 have HN1:=hid ((But.refl (fun i=>i=b) w).trans hn)
 have HM:=hid hm;have HK1:=hid hk
 clear hb hm hk hn
 generalize hw3:World.alloc w1 _=w3
 have hX3:BxL 128 w1.heap.size [.string ⟨a.1.toArray⟩,.int .i64 (a.2.1:Int),.int .i64 (a.2.2:Int)] w3:=by rw [<- hw3];exact BxL.new _ _ _
 have HD3:=hid (show Rd b O S.p.width pw cw S.inn S.step ws k1 w3 from by rw [<- hw3];exact hd.al _)
 have HN3:=hid (show But (fun i=>i=b) w w3 from by rw [<- hw3];exact HN1.al _)
 clear hw3 hd
 generalize hq:w1.heap.size=q at hX3 ⊢
 have HX3:=hid hX3
 have HQ:=hid (show w.heap.size<=q from by rw [<- hq];exact HN1.size)
 clear hq
 have HP3:=hid (HPM.read HD3.out HN3.out HK1.out)
 have HMD:=hid (siteP_eq (sites:=S.sites) HM.out)
 clear hX3 HN1 HD3
 obtain ⟨bc,hbc⟩:∃ c,S.sites.contains a.1=c:=⟨_,rfl⟩
 have HBC:=hid hbc
 clear hbc
 have hS:(fun W=>W.cell? ⟨b,10,none⟩=some (.slice ps S.sites.length cs)/\W.cell? ⟨q,0,none⟩=some (.string ⟨a.1.toArray⟩)/\W.cell? ⟨q,1,none⟩=some (.int .i64 (a.2.1:Int))/\W.cell? ⟨q,2,none⟩=some (.int .i64 (a.2.2:Int))) w3.drew:=⟨by rw [<- HO.out];exact HP3.rd.box.at 10 rfl,HX3.at 0 rfl,HX3.at 1 rfl,HX3.at 2 rfl⟩
 have HL3:=hid (show SlG kStr (fun i=>i<w3.heap.size/\i ≠ b) w3.drew (.slice ps S.sites.length cs) S.sites from by rw [<- HO.out];exact HP3.rs.st.slb (by have:=HSL.out;omega) (HP3.own 10))
 have hFa:=fT
 refine rgN (fun W=>W.cell? ⟨b,10,none⟩=some (.slice ps S.sites.length cs)/\W.cell? ⟨q,0,none⟩=some (.string ⟨a.1.toArray⟩)/\W.cell? ⟨q,1,none⟩=some (.int .i64 (a.2.1:Int))/\W.cell? ⟨q,2,none⟩=some (.int .i64 (a.2.2:Int))) 8 (by kernel_rfl) ?_
 simp only [zP,Nat.reduceAdd]
 iterate 6 (refine nxW (v:=?_) 8 hS ?_ ?_;rotate_left;(focus rintro w' ⟨s0,s1,s2,s3⟩;go_simp;try rfl);simp only [aP])
 refine oy 6 fun K hK=>?_
 go_simp
 (with_reducible refine (callsIn_wide.2 (contains_any S.sites a.1 _ _ _ HL3.out)).mono ?_)
 rintro e w4 ⟨rfl,rfl⟩
 rw [HBC.out]
 refine hK _ _ (.inr (.inr hS)) ?_
 clear hK K
 (refine nxW (v:=?_) 8 hS ?_ ?_;rotate_left;(focus rintro w' ⟨s0,s1,s2,s3⟩;go_simp;try rfl);simp only [aP])
 refine wpHJ_done (by kernel_rfl) ?_ _
 simp only [onlyN,Exit.then]
 clear hFa
 clear hS
 generalize hw:w3.drew=w4
 have HP4:=hid (show Pm B b O pw cw ws S k1 w4 from by rw [<- hw];exact HP3.dr)
 have HN4:=hid (show But (fun i=>i=b) w w4 from by rw [<- hw];exact HN3.dr)
 have HX4:=hid (show BxL 128 q [.string ⟨a.1.toArray⟩,.int .i64 (a.2.1:Int),.int .i64 (a.2.2:Int)] w4 from by rw [<- hw];exact HX3.out)
 clear hw
 cases bc
 ·go_upto_region 3 with fail
  have hS:(fun W=>W.cell? ⟨b,10,none⟩=some (.slice ps S.sites.length cs)/\W.cell? ⟨q,0,none⟩=some (.string ⟨a.1.toArray⟩)/\W.cell? ⟨q,1,none⟩=some (.int .i64 (a.2.1:Int))/\W.cell? ⟨q,2,none⟩=some (.int .i64 (a.2.2:Int))) w4.drew:=⟨by rw [<- HO.out];exact HP4.rd.box.at 10 rfl,HX4.at 0 rfl,HX4.at 1 rfl,HX4.at 2 rfl⟩
  have hFa:=fT
  refine rgP (fun _ _ _ h=>h) (fun W=>W.cell? ⟨b,10,none⟩=some (.slice ps S.sites.length cs)/\W.cell? ⟨q,0,none⟩=some (.string ⟨a.1.toArray⟩)/\W.cell? ⟨q,1,none⟩=some (.int .i64 (a.2.1:Int))/\W.cell? ⟨q,2,none⟩=some (.int .i64 (a.2.2:Int))) 9 (by kernel_rfl) ?_
  simp only [zP,Nat.reduceAdd]
  iterate 8 (refine nxW (v:=?_) 9 hS ?_ ?_;rotate_left;(focus rintro w' ⟨s0,s1,s2,s3⟩;go_simp;try rfl);simp only [aP])
  refine oy 8 fun K hK=>?_
  go_simp
  (with_reducible refine (callsIn_wide.2 (pneed_any _ ((a.2.1:Int),(a.2.2:Int)) _ _)).mono ?_)
  rintro e w5 ⟨hb,⟨hc,rfl⟩ | ⟨hc,rfl⟩⟩
  rotate_left
  ·exact ⟨rfl,(HN4.dr.trans (But.of_below _ hb)).below HBZ.out (fun i e=>e ▸ HBB.out),.inl ⟨_,by rw [HMD.out,HBC.out,if_neg (by have h:=hc;simp at h ⊢;omega)];rfl,rfl⟩⟩
  have HC5:=hid hc
  have HP5:=hid (HP4.dr.below hb)
  have HN5:=hid (HN4.dr.trans (But.of_below _ hb))
  have HX5:=hid ((HX4.bel (Below.refl _ _).drew).bel hb)
  have hS5:(fun W=>W.cell? ⟨b,10,none⟩=some (.slice ps S.sites.length cs)/\W.cell? ⟨q,0,none⟩=some (.string ⟨a.1.toArray⟩)/\W.cell? ⟨q,1,none⟩=some (.int .i64 (a.2.1:Int))/\W.cell? ⟨q,2,none⟩=some (.int .i64 (a.2.2:Int))) w5:=⟨by rw [<- HO.out];exact HP5.rd.box.at 10 rfl,HX5.at 0 rfl,HX5.at 1 rfl,HX5.at 2 rfl⟩
  clear hb hc hS
  refine hK _ _ (.inr (.inr hS5)) (dN ?_)
  clear hK K
  simp only [onlyP,Exit.then]
  clear hFa
  clear hS5
  have HLT:=hid (show S.sites.length<32 from by have h:=HC5.out;simp at h;omega)
  go_upto_region 4 with fail
  have hS:(fun W=>W.cell? ⟨q,0,none⟩=some (.string ⟨a.1.toArray⟩)/\W.cell? ⟨q,1,none⟩=some (.int .i64 (a.2.1:Int))/\W.cell? ⟨q,2,none⟩=some (.int .i64 (a.2.2:Int))) w5.drew:=HX5.p3
  have hFa:=fT
  refine rgP (fun _ _ _ h=>h) (fun W=>W.cell? ⟨q,0,none⟩=some (.string ⟨a.1.toArray⟩)/\W.cell? ⟨q,1,none⟩=some (.int .i64 (a.2.1:Int))/\W.cell? ⟨q,2,none⟩=some (.int .i64 (a.2.2:Int))) 6 (by kernel_rfl) ?_
  simp only [zP,Nat.reduceAdd]
  iterate 2 (refine nxW (v:=?_) 6 hS ?_ ?_;rotate_left;(focus rintro w' ⟨s0,s1,s2⟩;go_simp;try rfl);simp only [aP])
  iterate 2 (refine nxW (v:=?_) 7 hS ?_ ?_;rotate_left;(focus rintro w' ⟨s0,s1,s2⟩;go_simp;try rfl);simp only [aP])
  refine oy 2 fun K hK=>?_
  go_simp
  (with_reducible refine (callsIn_wide.2 (pnamed_any a.1 _)).mono ?_)
  rintro e w10 ⟨rfl,hb⟩
  have HP10:=hid (HP5.dr.below hb)
  have HN10:=hid (HN5.dr.trans (But.of_below _ hb))
  have HX10:=hid ((HX5.bel (Below.refl _ _).drew).bel hb)
  have hS10:(fun W=>W.cell? ⟨q,0,none⟩=some (.string ⟨a.1.toArray⟩)/\W.cell? ⟨q,1,none⟩=some (.int .i64 (a.2.1:Int))/\W.cell? ⟨q,2,none⟩=some (.int .i64 (a.2.2:Int))) w10:=HX10.p3
  clear hb hS
  refine hK _ _ (.inr (.inr hS10)) ?_
  clear hK K
  refine oy 5 fun K hK=>?_
  go_simp
  (with_reducible refine (callsIn_wide.2 (pneed_any _ ((a.2.1:Int),(a.2.2:Int)) _ _)).mono ?_)
  rintro e w6 ⟨hb,⟨hc,rfl⟩ | ⟨hc,rfl⟩⟩
  rotate_left
  ·exact ⟨rfl,(HN10.trans (But.of_below _ hb)).below HBZ.out (fun i e=>e ▸ HBB.out),.inl ⟨_,by rw [HMD.out,HBC.out,if_pos (by simpa using HLT.out),if_neg (by rw [hc];simp)];rfl,rfl⟩⟩
  have HC6:=hid hc
  have HP6:=hid (HP10.below hb)
  have HN6:=hid (HN10.trans (But.of_below _ hb))
  have HX6:=hid (HX10.bel hb)
  have hS6:(fun W=>W.cell? ⟨q,0,none⟩=some (.string ⟨a.1.toArray⟩)/\W.cell? ⟨q,1,none⟩=some (.int .i64 (a.2.1:Int))/\W.cell? ⟨q,2,none⟩=some (.int .i64 (a.2.2:Int))) w6:=HX6.p3
  clear hb hc hS10
  refine hK _ _ (.inr (.inr hS6)) (dN ?_)
  clear hK K
  simp only [onlyP,Exit.then]
  clear hFa
  clear hS6
  go_upto_region 5 with fail
  have hS:(fun W=>W.cell? ⟨b,10,none⟩=some (.slice ps S.sites.length cs)/\W.cell? ⟨q,0,none⟩=some (.string ⟨a.1.toArray⟩)/\W.cell? ⟨q,1,none⟩=some (.int .i64 (a.2.1:Int))/\W.cell? ⟨q,2,none⟩=some (.int .i64 (a.2.2:Int))) w6.drew:=⟨by rw [<- HO.out];exact HP6.rd.box.at 10 rfl,HX6.at 0 rfl,HX6.at 1 rfl,HX6.at 2 rfl⟩
  have HL6:=hid (show SlG kStr (fun i=>i<w6.heap.size/\i ≠ b) w6.drew (.slice ps S.sites.length cs) S.sites from by rw [<- HO.out];exact HP6.rs.st.slb (by have:=HSL.out;omega) (HP6.own 10))
  have hFa:=fT
  refine rgN (fun W=>W.cell? ⟨b,10,none⟩=some (.slice ps S.sites.length cs)/\W.cell? ⟨q,0,none⟩=some (.string ⟨a.1.toArray⟩)/\W.cell? ⟨q,1,none⟩=some (.int .i64 (a.2.1:Int))/\W.cell? ⟨q,2,none⟩=some (.int .i64 (a.2.2:Int))) 8 (by kernel_rfl) ?_
  simp only [zP,Nat.reduceAdd]
  iterate 6 (refine nxW (v:=?_) 8 hS ?_ ?_;rotate_left;(focus rintro w' ⟨s0,s1,s2,s3⟩;go_simp;try rfl);simp only [aP])
  refine oy 6 fun K hK=>?_
  go_simp
  (with_reducible refine (callsIn_wide.2 (contains_any S.sites a.1 _ _ _ HL6.out)).mono ?_)
  rintro e w4 ⟨rfl,rfl⟩
  rw [HBC.out]
  refine hK _ _ (.inr (.inr hS)) ?_
  clear hK K
  (refine nxW (v:=?_) 8 hS ?_ ?_;rotate_left;(focus rintro w' ⟨s0,s1,s2,s3⟩;go_simp;try rfl);simp only [aP])
  refine wpHJ_done (by kernel_rfl) ?_ _
  simp only [onlyN,Exit.then]
  clear hFa
  clear hS
  generalize hw:w6.drew=w7
  have HP7:=hid (show Pm B b O pw cw ws S k1 w7 from by rw [<- hw];exact HP6.dr)
  have HN7:=hid (show But (fun i=>i=b) w w7 from by rw [<- hw];exact HN6.dr)
  have HX7:=hid (show BxL 128 q [.string ⟨a.1.toArray⟩,.int .i64 (a.2.1:Int),.int .i64 (a.2.2:Int)] w7 from by rw [<- hw];exact HX6.out)
  clear hw
  go_upto_region 6 with fail
  have hS:(fun W=>W.cell? ⟨b,10,none⟩=some (.slice ps S.sites.length cs)/\W.cell? ⟨q,0,none⟩=some (.string ⟨a.1.toArray⟩)/\W.cell? ⟨q,1,none⟩=some (.int .i64 (a.2.1:Int))/\W.cell? ⟨q,2,none⟩=some (.int .i64 (a.2.2:Int))) w7.drew:=⟨by rw [<- HO.out];exact HP7.rd.box.at 10 rfl,HX7.at 0 rfl,HX7.at 1 rfl,HX7.at 2 rfl⟩
  have hFa:=fT
  refine rgN (fun W=>W.cell? ⟨b,10,none⟩=some (.slice ps S.sites.length cs)/\W.cell? ⟨q,0,none⟩=some (.string ⟨a.1.toArray⟩)/\W.cell? ⟨q,1,none⟩=some (.int .i64 (a.2.1:Int))/\W.cell? ⟨q,2,none⟩=some (.int .i64 (a.2.2:Int))) 11 (by kernel_rfl) ?_
  simp only [zP,Nat.reduceAdd]
  iterate 7 (refine nxW (v:=?_) 12 hS ?_ ?_;rotate_left;(focus rintro w' ⟨s0,s1,s2,s3⟩;go_simp;try rfl);simp only [aP])
  refine oy 7 fun K hK=>?_
  go_simp
  first | generalize hw:World.drew (World.alloc _ _)=w8 | generalize hw:World.alloc _ _=w8
  have HB8:=hid (show Below w7.heap.size w7 w8 from by rw [<- hw];first | exact (bA).drew | exact (bA))
  have HY8:=hid (show BxL 9 w7.heap.size [.string ⟨a.1.toArray⟩] w8 from by rw [<- hw];first | exact (BxL.new _ _ _).bel (Below.refl _ _).drew | exact BxL.new _ _ _)
  have HP8:=hid (HP7.below HB8.out)
  have HX8:=hid (HX7.bel HB8.out)
  have hS8:(fun W=>W.cell? ⟨b,10,none⟩=some (.slice ps S.sites.length cs)/\W.cell? ⟨q,0,none⟩=some (.string ⟨a.1.toArray⟩)/\W.cell? ⟨q,1,none⟩=some (.int .i64 (a.2.1:Int))/\W.cell? ⟨q,2,none⟩=some (.int .i64 (a.2.2:Int))) w8:=⟨by rw [<- HO.out];exact HP8.rd.box.at 10 rfl,HX8.at 0 rfl,HX8.at 1 rfl,HX8.at 2 rfl⟩
  clear hw hS
  refine hK _ _ (.inr (.inr hS8)) ?_
  clear hK K
  refine oy 8 fun K hK=>?_
  refine wpIn_pushB (R:=Fin' b O w8) (K:=kStr) (x:=a.1) (cs:=[.string ⟨a.1.toArray⟩]) (te:=9) hFa (.tmp 41) (.tmp 44) 22 rfl Tryz.underlying22 _ 16 info_str rfl (by have h:=HP8.rs.st;rw [HO.out] at h;exact h) (fun i hi=>⟨hi.1,by have h:=hi.2.2 10;rw [HO.out] at h;exact h⟩) rfl HY8.out (by rfl) (by rfl) (by have:=HLT.out;omega) (by have:=HLT.out;unfold maxLen;omega) (Nat.le_of_lt HP8.lt) ?_
  intro v' w9 hg9 hgr hm9
  obtain ⟨p9,c9,hv9⟩:=hg9.slc
  obtain ⟨n9,hn9⟩:∃ n,(S.sites++[a.1]).length=n:=⟨_,rfl⟩
  rw [hn9] at hv9
  subst hv9
  clear hn9
  have HG9:=hid hg9
  rw [<- HO.out] at hgr hm9
  have HGW:=hid hgr;have HMV:=hid hm9
  have HP9b:=hid (show BxL 106 b (psL O S.p.width (.slice pw ws.length cw) k1 S.inn S.step) w9 from HP8.rd.box.keep (hgr.block b HP8.lt fun e=>HP8.own 10 e.symm))
  have HX9:=hid (HX8.keep (hgr.block q HX8.lt fun e=>by have:=(HPM.rs.ow.lt 10 q e.symm).2;have:=HQ.out;omega))
  clear hg9 hgr hm9 hS8
  have hS9:(fun W=>W.cell? ⟨b,10,none⟩=some (.slice ps S.sites.length cs)/\W.cell? ⟨q,0,none⟩=some (.string ⟨a.1.toArray⟩)/\W.cell? ⟨q,1,none⟩=some (.int .i64 (a.2.1:Int))/\W.cell? ⟨q,2,none⟩=some (.int .i64 (a.2.2:Int))) w9:=⟨by rw [<- HO.out];exact HP9b.at 10 rfl,HX9.at 0 rfl,HX9.at 1 rfl,HX9.at 2 rfl⟩
  have c10:=hS9.1
  have f10:=HP9b.fr 10
  refine hK _ _ (.inr (.inr hS9)) ?_
  clear hK K
  (refine npW (v:=?_) 12 (.inr hS9) ?_ ?_;rotate_left;(focus rintro w' _;go_simp;try rfl);simp only [aP])
  (refine nxW (v:=?_) 12 hS9 ?_ ?_;rotate_left;(focus rintro w' ⟨s0,s1,s2,s3⟩;go_simp;try rfl);simp only [aP])
  refine oy 11 fun K hK=>?_
  go_simp
  refine hK _ _ (.inl rfl) (dN ?_)
  clear hK K
  simp only [onlyN,Exit.then]
  clear hFa
  clear c10 f10 hS9
  obtain ⟨hpf,hsf,hmf⟩:=HP7.grow10 HB8.out HGW.out HMV.out HG9.out
  generalize hw:World.setCell _ _ _=wf at hpf hsf ⊢
  have hxf:BxL 128 q [.string ⟨a.1.toArray⟩,.int .i64 (a.2.1:Int),.int .i64 (a.2.2:Int)] wf:=by rw [<- hw];exact HX9.keep (heap_ot (by have:=HQ.out;have:=HSZ.out;omega) _)
  have HPF:=hid hpf;have HSF:=hid hsf;have HMF:=hid hmf
  clear hw hpf hsf hmf
  obtain ⟨n0,n1,n2⟩:=hxf.p3
  go_wp2_with fail
  go_ret
  have hst:Step b O 10 w _:=Step.trans' HN7.out HSF.out
  exact ⟨hst.below HPM.rs.ow HBB.out HBZ.out,.inr ⟨a.1,k1,_,S.sites++[a.1],by rw [HMD.out,HBC.out,if_pos (by simpa using HLT.out),if_pos HC6.out];rfl,rfl,by rw [List.length_append];have:=HLT.out;show _+1<=32;omega,HPF.out,hst,by rcases HMF.out with e | ⟨i,e,hi⟩;exact .inl e;exact .inr ⟨i,e,Nat.le_trans HN7.size hi⟩⟩⟩
 ·go_upto_region 4 with fail
  have hS:(fun W=>W.cell? ⟨q,0,none⟩=some (.string ⟨a.1.toArray⟩)/\W.cell? ⟨q,1,none⟩=some (.int .i64 (a.2.1:Int))/\W.cell? ⟨q,2,none⟩=some (.int .i64 (a.2.2:Int))) w4.drew:=HX4.p3
  have hFa:=fT
  refine rgP (fun _ _ _ h=>h) (fun W=>W.cell? ⟨q,0,none⟩=some (.string ⟨a.1.toArray⟩)/\W.cell? ⟨q,1,none⟩=some (.int .i64 (a.2.1:Int))/\W.cell? ⟨q,2,none⟩=some (.int .i64 (a.2.2:Int))) 6 (by kernel_rfl) ?_
  simp only [zP,Nat.reduceAdd]
  iterate 2 (refine nxW (v:=?_) 6 hS ?_ ?_;rotate_left;(focus rintro w' ⟨s0,s1,s2⟩;go_simp;try rfl);simp only [aP])
  iterate 2 (refine nxW (v:=?_) 7 hS ?_ ?_;rotate_left;(focus rintro w' ⟨s0,s1,s2⟩;go_simp;try rfl);simp only [aP])
  refine oy 2 fun K hK=>?_
  go_simp
  (with_reducible refine (callsIn_wide.2 (pnamed_any a.1 _)).mono ?_)
  rintro e w5 ⟨rfl,hb⟩
  have HP5:=hid (HP4.dr.below hb)
  have HN5:=hid (HN4.dr.trans (But.of_below _ hb))
  have HX5:=hid ((HX4.bel (Below.refl _ _).drew).bel hb)
  have hS5:(fun W=>W.cell? ⟨q,0,none⟩=some (.string ⟨a.1.toArray⟩)/\W.cell? ⟨q,1,none⟩=some (.int .i64 (a.2.1:Int))/\W.cell? ⟨q,2,none⟩=some (.int .i64 (a.2.2:Int))) w5:=HX5.p3
  clear hb hS
  refine hK _ _ (.inr (.inr hS5)) ?_
  clear hK K
  refine oy 5 fun K hK=>?_
  go_simp
  (with_reducible refine (callsIn_wide.2 (pneed_any _ ((a.2.1:Int),(a.2.2:Int)) _ _)).mono ?_)
  rintro e w6 ⟨hb,⟨hc,rfl⟩ | ⟨hc,rfl⟩⟩
  rotate_left
  ·exact ⟨rfl,(HN5.trans (But.of_below _ hb)).below HBZ.out (fun i e=>e ▸ HBB.out),.inl ⟨_,by rw [HMD.out,HBC.out,if_pos (by simp),if_neg (by rw [hc];simp)];rfl,rfl⟩⟩
  have HC6:=hid hc
  have HP6:=hid (HP5.below hb)
  have HN6:=hid (HN5.trans (But.of_below _ hb))
  have HX6:=hid (HX5.bel hb)
  have hS6:(fun W=>W.cell? ⟨q,0,none⟩=some (.string ⟨a.1.toArray⟩)/\W.cell? ⟨q,1,none⟩=some (.int .i64 (a.2.1:Int))/\W.cell? ⟨q,2,none⟩=some (.int .i64 (a.2.2:Int))) w6:=HX6.p3
  clear hb hc hS5
  refine hK _ _ (.inr (.inr hS6)) (dN ?_)
  clear hK K
  simp only [onlyP,Exit.then]
  clear hFa
  clear hS6
  go_upto_region 5 with fail
  have hS:(fun W=>W.cell? ⟨b,10,none⟩=some (.slice ps S.sites.length cs)/\W.cell? ⟨q,0,none⟩=some (.string ⟨a.1.toArray⟩)/\W.cell? ⟨q,1,none⟩=some (.int .i64 (a.2.1:Int))/\W.cell? ⟨q,2,none⟩=some (.int .i64 (a.2.2:Int))) w6.drew:=⟨by rw [<- HO.out];exact HP6.rd.box.at 10 rfl,HX6.at 0 rfl,HX6.at 1 rfl,HX6.at 2 rfl⟩
  have HL6:=hid (show SlG kStr (fun i=>i<w6.heap.size/\i ≠ b) w6.drew (.slice ps S.sites.length cs) S.sites from by rw [<- HO.out];exact HP6.rs.st.slb (by have:=HSL.out;omega) (HP6.own 10))
  have hFa:=fT
  refine rgN (fun W=>W.cell? ⟨b,10,none⟩=some (.slice ps S.sites.length cs)/\W.cell? ⟨q,0,none⟩=some (.string ⟨a.1.toArray⟩)/\W.cell? ⟨q,1,none⟩=some (.int .i64 (a.2.1:Int))/\W.cell? ⟨q,2,none⟩=some (.int .i64 (a.2.2:Int))) 8 (by kernel_rfl) ?_
  simp only [zP,Nat.reduceAdd]
  iterate 6 (refine nxW (v:=?_) 8 hS ?_ ?_;rotate_left;(focus rintro w' ⟨s0,s1,s2,s3⟩;go_simp;try rfl);simp only [aP])
  refine oy 6 fun K hK=>?_
  go_simp
  (with_reducible refine (callsIn_wide.2 (contains_any S.sites a.1 _ _ _ HL6.out)).mono ?_)
  rintro e w4 ⟨rfl,rfl⟩
  rw [HBC.out]
  refine hK _ _ (.inr (.inr hS)) ?_
  clear hK K
  (refine nxW (v:=?_) 8 hS ?_ ?_;rotate_left;(focus rintro w' ⟨s0,s1,s2,s3⟩;go_simp;try rfl);simp only [aP])
  refine wpHJ_done (by kernel_rfl) ?_ _
  simp only [onlyN,Exit.then]
  clear hFa
  clear hS
  generalize hw:w6.drew=w7
  have HP7:=hid (show Pm B b O pw cw ws S k1 w7 from by rw [<- hw];exact HP6.dr)
  have HN7:=hid (show But (fun i=>i=b) w w7 from by rw [<- hw];exact HN6.dr)
  have HX7:=hid (show BxL 128 q [.string ⟨a.1.toArray⟩,.int .i64 (a.2.1:Int),.int .i64 (a.2.2:Int)] w7 from by rw [<- hw];exact HX6.out)
  clear hw
  obtain ⟨n0,n1,n2⟩:=HX7.p3
  go_wp2_with fail
  go_ret
  exact ⟨HN7.below HBZ.out (fun i e=>e ▸ HBB.out),.inr ⟨a.1,k1,O 10,S.sites,by rw [HMD.out,HBC.out,if_pos (by simp),if_pos HC6.out,if_pos rfl],rfl,HSL.out,by rw [upd_self];exact HP7.out,Step.of_but HN7.out,.inl rfl⟩⟩
end Go.Proofs.YtoofbgoeipijcaaGreatDoor
