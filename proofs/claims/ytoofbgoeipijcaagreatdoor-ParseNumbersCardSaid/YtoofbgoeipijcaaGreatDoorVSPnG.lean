/-
 A part.
-/
import Derived.Test.YtoofbgoeipijcaaGreatDoorVSPnF
namespace Go.Proofs.YtoofbgoeipijcaaGreatDoor
set_option maxRecDepth 100000
set_option maxHeartbeats 4000000
set_option linter.all false
open Go.RowKit Go.Shelf
attribute [local go_sem] Oper.semAt_some
theorem chan_long {S:PS} {f:Int × Int} {r:List Wd} (h:¬ S.p.chans.length<32):chanD S f r=.error (f,5):=by unfold chanD;simp only [needM,decide_eq_false h];rfl
theorem array_long {S:PS} {f:Int × Int} {r:List Wd} (h:¬ S.p.arrays.length<32):arrayD S f r=.error (f,5):=by unfold arrayD;simp only [needM,decide_eq_false h];rfl
theorem func_long {S:PS} {f:Int × Int} {r:List Wd} (h:¬ S.p.funcs.length<32):funcD S f r=.error (f,5):=by unfold funcD;simp only [needM,decide_eq_false h];rfl
def chan2 (S:PS):PE (Bs × List Wd)->PE PS
 | .error e => .error e
 | .ok (s,q)=>match endP q with
  | .error e => .error e
  | .ok _ => .ok { S with p:={ S.p with chans:=S.p.chans++[s] } }
theorem chan_eq {S:PS} {f:Int × Int} {r:List Wd} (h:S.p.chans.length<32):chanD S f r=chan2 S (freshP f S.p.chans r):=by
 unfold chanD chan2;simp only [needM,decide_eq_true h,if_true,bind,Except.bind]
 cases freshP f S.p.chans r with
 | error e=>rfl
 | ok p=>dsimp only;cases endP p.2 <;> rfl
def array3 (S:PS) (s:Bs):PE (Nat × List Wd)->PE PS
 | .error e => .error e
 | .ok (n,q)=>match endP q with
  | .error e => .error e
  | .ok _ => .ok { S with p:={ S.p with arrays:=S.p.arrays++[⟨s,(n:Int)⟩] },step:=2 }
theorem array_eq {S:PS} {f:Int × Int} {r:List Wd} (h:S.p.arrays.length<32):arrayD S f r=match freshP f (anamesP S.p) r with | .error e => .error e | .ok (s,q)=>array3 S s (numberP f 64 q):=by
 unfold arrayD array3;simp only [needM,decide_eq_true h,if_true,bind,Except.bind]
 cases freshP f (anamesP S.p) r with
 | error e=>rfl
 | ok p =>
  dsimp only
  cases numberP f 64 p.2 with
  | error e=>rfl
  | ok p2=>dsimp only;cases endP p2.2 <;> rfl
theorem pchannel_any {B b:Nat} {O:Nat->Value} {pw:Option Addr} {cw:Nat} {ws:List Wd} {S:PS} {k:Nat} {w:World} (hp:Pm B b O pw cw ws S k w) (hw:WOk ws) (hok:SOk S):Calls Tryz.prog 180 #[.pointer (some ⟨b,0,none⟩)] w (InsP B b pw cw ws (chanD S (fpos ws) (ws.drop k)) w):=by
 have hd:=hp.rd
 have hk:=hp.le
 have hB:=hp.ge
 have HPM:=hid hp;have HOK:=hid hok
 clear hp hok
 have HD:=hid hd;have HW:=hid hw;have HBB:=hid hB;have HLE:=hid hk;have HSZ:=hid hd.box.lt
 have HBZ:=hid (show B<=w.heap.size from Nat.le_of_lt (Nat.lt_of_le_of_lt hB hd.box.lt))
 clear hd hw hB hk
 obtain ⟨pl,cl,hO⟩:=HPM.rs.ch.slc
 have HO:=hid hO
 have hS:(fun W=>W.cell? ⟨b,1,none⟩=some (.slice pl S.p.chans.length cl)) w.drew:=by rw [<- hO];exact HD.box.at 1 rfl
 clear hO
 go_enter Tryz.func180,Tryz.ntmps180
 go_upto_region 0 with fail
 have hFa:=fT
 refine rgP (fun _ _ _ h=>h) (fun W=>W.cell? ⟨b,1,none⟩=some (.slice pl S.p.chans.length cl)) 10 (by kernel_rfl) ?_
 simp only [zP,Nat.reduceAdd]
 iterate 8 (refine nxW (v:=?_) 10 hS ?_ ?_;rotate_left;(focus rintro w' s0;go_simp;try rfl);simp only [aP])
 refine oy 8 fun K hK=>?_
 go_simp
 (with_reducible refine (callsIn_wide.2 (first_any (HD.out.below (Below.refl _ _).drew) HW.out)).mono ?_)
 rintro e w2 ⟨rfl,hb⟩
 have HP2:=hid (HPM.dr.below hb)
 have HB2:=hid ((Below.refl B w).drew.trans (hb.mono HBZ.out))
 have HN2:=hid ((But.refl (fun i=>i=b) w).dr.trans (But.of_below _ hb))
 have hS2:(fun W=>W.cell? ⟨b,1,none⟩=some (.slice pl S.p.chans.length cl)) w2:=by rw [<- HO.out];exact HP2.rd.box.at 1 rfl
 clear hb hS
 refine hK _ _ (.inr (.inr hS2)) ?_
 clear hK K
 refine oy 9 fun K hK=>?_
 go_simp
 (with_reducible refine (callsIn_wide.2 (pneed_any _ (fpos ws) _ _)).mono ?_)
 rintro e w3 ⟨hb,⟨hc,rfl⟩ | ⟨hc,rfl⟩⟩
 rotate_left
 ·exact ⟨rfl,HB2.trans (hb.mono HP2.size),.inl ⟨_,chan_long (by have h:=hc;simp at h;omega),rfl⟩⟩
 have HLT:=hid (show S.p.chans.length<32 from by have h:=hc;simp at h;omega)
 have HP3:=hid (HP2.below hb)
 have HB3:=hid (HB2.trans (hb.mono HP2.size))
 have HN3:=hid (HN2.trans (But.of_below _ hb))
 have hS3:(fun W=>W.cell? ⟨b,1,none⟩=some (.slice pl S.p.chans.length cl)) w3:=by rw [<- HO.out];exact HP3.rd.box.at 1 rfl
 clear hb hc hS2
 refine hK _ _ (.inr (.inr hS3)) (dN ?_)
 clear hK K
 simp only [onlyP,Exit.then]
 clear hFa
 clear hS3
 go_upto_region 1 with fail
 have HME:=hid (chan_eq (S:=S) (f:=fpos ws) (r:=ws.drop k) HLT.out)
 have hS:(fun W=>W.cell? ⟨b,1,none⟩=some (.slice pl S.p.chans.length cl)) w3.drew:=by rw [<- HO.out];exact HP3.rd.box.at 1 rfl
 have hFa:=fT
 refine rgP (fun _ _ _ h=>h) (fun W=>W.cell? ⟨b,1,none⟩=some (.slice pl S.p.chans.length cl)) 18 (by kernel_rfl) ?_
 simp only [zP,Nat.reduceAdd]
 iterate 12 (refine nxW (v:=?_) 19 hS ?_ ?_;rotate_left;(focus rintro w' s0;go_simp;try rfl);simp only [aP])
 refine oy 12 fun K hK=>?_
 go_simp
 (with_reducible refine (callsIn_wide.2 (pfresh_any HP3.out.dr.rd HP3.out.le HW.out HBB.out (show SlG kStr (fun i=>i<w3.drew.heap.size/\i ≠ b) w3.drew (.slice pl S.p.chans.length cl) S.p.chans from by rw [<- HO.out];exact HP3.out.dr.rs.ch.slb (by have:=HLT.out;omega) (HP3.out.dr.own 1)) (fun i hi=>hi))).mono ?_)
 rintro e w4 ⟨hb,⟨f1,hm,rfl⟩ | ⟨s,k4,v,hm,hk,rfl,hv,hd,hn⟩⟩
 ·exact ⟨rfl,HB3.drew.trans hb,.inl ⟨f1,by (rw [HME.out,hm];rfl),rfl⟩⟩
 obtain rfl:v=.string ⟨s.toArray⟩:=hv
 have HM4:=hid hm
 have HP4:=hid (HP3.dr.read hd hn hk)
 have HBB4:=hid (HB3.drew.trans hb)
 have hS4:(fun W=>W.cell? ⟨b,1,none⟩=some (.slice pl S.p.chans.length cl)) w4:=by rw [<- HO.out];exact HP4.rd.box.at 1 rfl
 clear hb hm hk hd hn hS
 refine hK _ _ (.inr (.inr hS4)) ?_
 clear hK K
 refine oy 13 fun K hK=>?_
 go_simp
 generalize hw:World.alloc _ _=w5
 have HB5:=hid (show Below w4.heap.size w4 w5 from by rw [<- hw];exact bA)
 have HY5:=hid (show BxL 9 w4.heap.size [.string ⟨s.toArray⟩] w5 from by rw [<- hw];exact BxL.new _ _ _)
 have HP5:=hid (HP4.below HB5.out)
 have hS5:(fun W=>W.cell? ⟨b,1,none⟩=some (.slice pl S.p.chans.length cl)) w5:=by rw [<- HO.out];exact HP5.rd.box.at 1 rfl
 clear hw hS4
 refine hK _ _ (.inr (.inr hS5)) ?_
 clear hK K
 refine oy 14 fun K hK=>?_
 refine wpIn_pushB (R:=fun _=>False) (B:=b) (K:=kStr) (v := .slice pl S.p.chans.length cl) (l:=S.p.chans) (x:=s) (cs:=[.string ⟨s.toArray⟩]) (te:=9) hFa (.tmp 17) (.tmp 25) 22 rfl Tryz.underlying22 _ 16 info_str rfl (by have h:=HP5.rs.ch;rw [HO.out] at h;exact h.str) (fun i hi=>hi.elim) rfl HY5.out (by rfl) (by rfl) (by have:=HLT.out;omega) (by have:=HLT.out;unfold maxLen;omega) (Nat.le_of_lt HP5.lt) ?_
 intro v' w6 hg6 hgr hm6
 obtain ⟨p9,c9,hv9⟩:=hg6.slc
 obtain ⟨n9,hn9⟩:∃ n,(S.p.chans++[s]).length=n:=⟨_,rfl⟩
 rw [hn9] at hv9
 subst hv9
 clear hn9
 rw [<- HO.out] at hgr hm6
 have HPJ:=hid (HP4.toJ.grow1 HB5.out hgr hm6 hg6).1
 have HB6:=hid (show Below B w w6 from HBB4.trans ((HB5.mono HP4.size).trans ⟨hgr.os,hgr.tape,hgr.output,hgr.size,fun i hi=>hgr.block i (Nat.lt_of_lt_of_le hi HP5.size) fun e=>by have:=(HP5.rs.ow.lt _ i e.symm).1;have:=HBB.out;omega⟩))
 have hbx:=HP5.rd.box.keep (hgr.block b HP5.lt fun e=>HP5.own 1 e.symm)
 have hS6:(fun W=>W.cell? ⟨b,1,none⟩=some (.slice pl S.p.chans.length cl)) w6:=by rw [<- HO.out];exact hbx.at 1 rfl
 have c1:=hS6
 have f1:=hbx.fr 1
 clear hg6 hgr hm6 hbx hS5
 refine hK _ _ (.inr (.inr hS6)) ?_
 clear hK K
 iterate 2 (refine npW (v:=?_) 19 (.inr hS6) ?_ ?_;rotate_left;(focus rintro w' _;go_simp;try rfl);simp only [aP])
 (refine nxW (v:=?_) 19 hS6 ?_ ?_;rotate_left;(focus rintro w' s0;go_simp;try rfl);simp only [aP])
 refine oy 18 fun K hK=>?_
 go_simp
 refine hK _ _ (.inl rfl) (dN ?_)
 clear hK K
 simp only [onlyP,Exit.then]
 clear hFa
 clear c1 f1 hS6
 generalize hw:World.setCell _ _ _=w7 at HPJ ⊢
 have HP7:=hid (HPJ.toP rfl rfl)
 have HB7:=hid (show Below B w w7 from by rw [<- hw];exact HB6.setCell (p:=⟨b,1,none⟩) HBB.out _)
 clear hw
 go_wp2_with (go_at_call 146;(with_reducible refine (pend_any HP7.out.rd HP7.out.le HW.out HBB.out).mono ?_);rintro e w8 ⟨hb,⟨f1,hm,rfl⟩ | ⟨hm,hnil,rfl,hd,hn⟩⟩;(focus (exact ⟨rfl,HB7.out.trans hb,.inl ⟨f1,by (rw [HME.out,HM4.out];unfold chan2;dsimp only;rw [hm]),rfl⟩⟩));have HM8:=hid hm;have HP8:=hid (HP7.out.read hd hn HP7.out.le);have HB8:=hid (HB7.out.trans hb);clear hb hm hnil hd hn)
 first | go_end0 | refine bodyPost_ret (results_none rfl _ _ _) rfl ?_
 exact ⟨HB8.out,.inr ⟨_,_,_,by (rw [HME.out,HM4.out];unfold chan2;dsimp only;rw [HM8.out]),rfl,HP8.out⟩⟩
theorem info_arP:(Tryz.prog.info? 87).map (fun i=>(i.zero,i.size,i.bytes))=some (some (.agg #[.string ⟨#[]⟩,.int .i64 0]),kAr.n,24):=by kernel_rfl
theorem anames_len (p:Pg):(anamesP p).length=p.arrays.length:=by simp [anamesP]
theorem parray_any {B b:Nat} {O:Nat->Value} {pw:Option Addr} {cw:Nat} {ws:List Wd} {S:PS} {k:Nat} {w:World} (hp:Pm B b O pw cw ws S k w) (hw:WOk ws) (hok:SOk S):Calls Tryz.prog 181 #[.pointer (some ⟨b,0,none⟩)] w (InsP B b pw cw ws (arrayD S (fpos ws) (ws.drop k)) w):=by
 have hd:=hp.rd
 have hk:=hp.le
 have hB:=hp.ge
 have HPM:=hid hp;have HOK:=hid hok
 clear hp hok
 have HD:=hid hd;have HW:=hid hw;have HBB:=hid hB;have HLE:=hid hk;have HSZ:=hid hd.box.lt
 have HBZ:=hid (show B<=w.heap.size from Nat.le_of_lt (Nat.lt_of_le_of_lt hB hd.box.lt))
 clear hd hw hB hk
 obtain ⟨pn,cn,hON⟩:=HPM.rs.an.slc
 have HON:=hid hON
 clear hON
 obtain ⟨pl,cl,hO⟩:=HPM.rs.ar.slc
 have HO:=hid hO
 have hS:(fun W=>W.cell? ⟨b,2,none⟩=some (.slice pl S.p.arrays.length cl)) w.drew:=by rw [<- hO];exact HD.box.at 2 rfl
 clear hO
 go_enter Tryz.func181,Tryz.ntmps181
 go_upto_region 0 with fail
 have hFa:=fT
 refine rgP (fun _ _ _ h=>h) (fun W=>W.cell? ⟨b,2,none⟩=some (.slice pl S.p.arrays.length cl)) 10 (by kernel_rfl) ?_
 simp only [zP,Nat.reduceAdd]
 iterate 8 (refine nxW (v:=?_) 10 hS ?_ ?_;rotate_left;(focus rintro w' s0;go_simp;try rfl);simp only [aP])
 refine oy 8 fun K hK=>?_
 go_simp
 (with_reducible refine (callsIn_wide.2 (first_any (HD.out.below (Below.refl _ _).drew) HW.out)).mono ?_)
 rintro e w2 ⟨rfl,hb⟩
 have HP2:=hid (HPM.dr.below hb)
 have HB2:=hid ((Below.refl B w).drew.trans (hb.mono HBZ.out))
 have HN2:=hid ((But.refl (fun i=>i=b) w).dr.trans (But.of_below _ hb))
 have hS2:(fun W=>W.cell? ⟨b,2,none⟩=some (.slice pl S.p.arrays.length cl)) w2:=by rw [<- HO.out];exact HP2.rd.box.at 2 rfl
 clear hb hS
 refine hK _ _ (.inr (.inr hS2)) ?_
 clear hK K
 refine oy 9 fun K hK=>?_
 go_simp
 (with_reducible refine (callsIn_wide.2 (pneed_any _ (fpos ws) _ _)).mono ?_)
 rintro e w3 ⟨hb,⟨hc,rfl⟩ | ⟨hc,rfl⟩⟩
 rotate_left
 ·exact ⟨rfl,HB2.trans (hb.mono HP2.size),.inl ⟨_,array_long (by have h:=hc;simp at h;omega),rfl⟩⟩
 have HLT:=hid (show S.p.arrays.length<32 from by have h:=hc;simp at h;omega)
 have HP3:=hid (HP2.below hb)
 have HB3:=hid (HB2.trans (hb.mono HP2.size))
 have HN3:=hid (HN2.trans (But.of_below _ hb))
 have hS3:(fun W=>W.cell? ⟨b,2,none⟩=some (.slice pl S.p.arrays.length cl)) w3:=by rw [<- HO.out];exact HP3.rd.box.at 2 rfl
 clear hb hc hS2
 refine hK _ _ (.inr (.inr hS3)) (dN ?_)
 clear hK K
 simp only [onlyP,Exit.then]
 clear hFa
 clear hS3
 go_upto_region 1 with fail
 have HME:=hid (array_eq (S:=S) (f:=fpos ws) (r:=ws.drop k) HLT.out)
 have HLA:=hid (show (anamesP S.p).length<32 from by rw [anames_len];exact HLT.out)
 have HFR:=hid (show Calls Tryz.prog 214 #[.pointer (some ⟨b,0,none⟩),.slice pn (anamesP S.p).length cn] w3 _ from pfresh_any HP3.rd HP3.le HW.out HBB.out (show SlG kStr (fun i=>i<w3.heap.size/\i ≠ b) w3 (.slice pn (anamesP S.p).length cn) (anamesP S.p) from by rw [<- HON.out];exact HP3.rs.an.slb (by have:=HLA.out;omega) (HP3.own 7)) (fun i hi=>hi))
 have c7:=HP3.rd.box.at 7 rfl
 rw [HON.out] at c7
 go_upto_region 2 with (go_at_call 214;(with_reducible refine HFR.out.mono ?_);rintro e w4 ⟨hb,⟨f1,hm,rfl⟩ | ⟨s,k4,v,hm,hk,rfl,hv,hd,hn⟩⟩;(focus (exact ⟨rfl,HB3.out.trans hb,.inl ⟨f1,by (rw [HME.out,hm]),rfl⟩⟩));obtain rfl:v=.string ⟨s.toArray⟩:=hv;have HM4:=hid hm;have HP4:=hid (HP3.out.read hd hn hk);have HBW4:=hid (HB3.out.trans hb);clear hb hm hk hd hn c7)
 generalize hw:World.alloc _ _=w5
 have HT5:=hid (show BxL 87 w4.heap.size [.string ⟨s.toArray⟩,.int .i64 0] w5 from by rw [<- hw];exact BxL.new _ _ _)
 have HP5:=hid (show Pm B b (upd O 30 (ownV w4.heap.size)) pw cw ws S k4 w5 from by rw [<- hw];exact HP4.box _)
 have HBW5:=hid (show Below B w w5 from by rw [<- hw];exact HBW4.alloc HP4.size _)
 have HQB:=hid (show b<w4.heap.size from HP4.lt)
 have HQ5:=hid (show B<=w4.heap.size from HP4.size)
 clear hw
 generalize hq:w4.heap.size=q at HT5 HP5 HQB HQ5 ⊢
 clear hq
 obtain ⟨OB,hOB⟩:∃ o,upd O 30 (ownV q)=o:=⟨_,rfl⟩
 rw [hOB] at HP5
 have H30:=hid (show (OB 30).ownBlock=some q from by rw [<- hOB,upd_eq];rfl)
 have HOI:=hid (show ∀ i,i ≠ 30->OB i=O i from fun i h=>by rw [<- hOB,upd_ne _ _ h])
 clear hOB
 have HNUM:=hid (show Calls Tryz.prog 213 #[.pointer (some ⟨b,0,none⟩),.int .u64 64] w5 _ from pnumber_any 64 lrf HP5.rd HP5.le HW.out HBB.out)
 go_upto_region 3 with (go_at_call 213;(with_reducible refine HNUM.out.mono ?_);rintro e w6 ⟨hb,⟨f1,hm,rfl⟩ | ⟨n,k6,v,hm,hk,rfl,hv,hd,hn⟩⟩;(focus (exact ⟨rfl,HBW5.out.trans hb,.inl ⟨f1,by (rw [HME.out,HM4.out];dsimp only;unfold array3;rw [hm]),rfl⟩⟩));obtain rfl:v=.int .i64 (n:Int):=hv;have HM6:=hid hm;have HP6:=hid (HP5.out.read hd hn hk);have HBW6:=hid (HBW5.out.trans hb);have HT6:=hid (HT5.out.but hn (by have:=HQB.out;omega));have t1:=HT6.out.at 1 rfl;have f1:=HT6.out.fr 1;clear hb hm hk hd hn)
 generalize hw:World.setCell _ _ _=w7
 have HP7:=hid (show Pm B b OB pw cw ws S k6 w7 from by rw [<- hw];exact HP6.poke H30.out _)
 have HBW7:=hid (show Below B w w7 from by rw [<- hw];exact HBW6.setCell (p:=⟨q,1,none⟩) HQ5.out _)
 have HT7:=hid (show BxL 87 q [.string ⟨s.toArray⟩,.int .i64 (n:Int)] w7 from by rw [<- hw];exact HT6.set 1 _)
 clear hw t1 f1
 go_upto_region 4 with (go_at_call 146;(with_reducible refine (pend_any HP7.out.rd HP7.out.le HW.out HBB.out).mono ?_);rintro e w8 ⟨hb,⟨f1,hm,rfl⟩ | ⟨hm,hnil,rfl,hd,hn⟩⟩;(focus (exact ⟨rfl,HBW7.out.trans hb,.inl ⟨f1,by (rw [HME.out,HM4.out];dsimp only;unfold array3;rw [HM6.out];dsimp only;rw [hm]),rfl⟩⟩));have HM8:=hid hm;have HJ8:=hid (HP7.out.read hd hn HP7.out.le).toJ;have HBW8:=hid (HBW7.out.trans hb);have HT8:=hid (HT7.out.but hn (by have:=HQB.out;omega));clear hb hm hnil hd hn)
 have HOA:=hid (show OB 7=.slice pn (anamesP S.p).length cn from by rw [HOI.out 7 (by decide),HON.out])
 have HOR:=hid (show OB 2=.slice pl S.p.arrays.length cl from by rw [HOI.out 2 (by decide),HO.out])
 have hS:(fun W=>W.cell? ⟨b,7,none⟩=some (.slice pn (anamesP S.p).length cn)/\W.cell? ⟨q,0,none⟩=some (.string ⟨s.toArray⟩)) w8.drew:=⟨by rw [<- HOA.out];exact HJ8.rd.box.at 7 rfl,HT8.at 0 rfl⟩
 have hFa:=fT
 refine rgN (fun W=>W.cell? ⟨b,7,none⟩=some (.slice pn (anamesP S.p).length cn)/\W.cell? ⟨q,0,none⟩=some (.string ⟨s.toArray⟩)) 11 (by kernel_rfl) ?_
 simp only [zP,Nat.reduceAdd]
 iterate 7 (refine nxW (v:=?_) 12 hS ?_ ?_;rotate_left;(focus rintro w' ⟨s0,s1⟩;go_simp;try rfl);simp only [aP])
 refine oy 7 fun K hK=>?_
 go_simp
 first | generalize hw:World.drew (World.alloc _ _)=w9 | generalize hw:World.alloc _ _=w9
 have HB9:=hid (show Below w8.heap.size w8 w9 from by rw [<- hw];first | exact (bA).drew | exact (bA))
 have HY9:=hid (show BxL 9 w8.heap.size [.string ⟨s.toArray⟩] w9 from by rw [<- hw];first | exact (BxL.new _ _ _).bel (Below.refl _ _).drew | exact BxL.new _ _ _)
 have HJ9:=hid (HJ8.below HB9.out)
 have HT9:=hid (HT8.bel HB9.out)
 have hS9:(fun W=>W.cell? ⟨b,7,none⟩=some (.slice pn (anamesP S.p).length cn)/\W.cell? ⟨q,0,none⟩=some (.string ⟨s.toArray⟩)) w9:=⟨by rw [<- HOA.out];exact HJ9.rd.box.at 7 rfl,HT9.at 0 rfl⟩
 clear hw hS
 refine hK _ _ (.inr (.inr hS9)) ?_
 clear hK K
 refine oy 8 fun K hK=>?_
 refine wpIn_pushB (R:=fun _=>False) (B:=b) (K:=kStr) (v := .slice pn (anamesP S.p).length cn) (l:=anamesP S.p) (x:=s) (te:=9) hFa (.tmp 29) (.tmp 32) 22 rfl Tryz.underlying22 _ 16 info_str rfl (by have h:=HJ9.an;rw [HOA.out] at h;exact h.str) (fun i hi=>hi.elim) rfl HY9.out (by rfl) (by rfl) (by have:=HLA.out;omega) (by have:=HLA.out;unfold maxLen;omega) (Nat.le_of_lt HJ9.lt) ?_
 intro v' w10 hg hgr hm
 obtain ⟨p9,c9,hv9⟩:=hg.slc
 obtain ⟨n9,hn9⟩:∃ n',(anamesP S.p++[s]).length=n':=⟨_,rfl⟩
 rw [hn9] at hv9
 subst hv9
 clear hn9
 rw [<- HOA.out] at hgr hm
 have HPJ:=hid (HJ8.grow7 HB9.out hgr hm hg).1
 have HB10':=hid (show Below B w w10 from HBW8.trans ((HB9.mono HJ8.size).trans ⟨hgr.os,hgr.tape,hgr.output,hgr.size,fun i hi=>hgr.block i (Nat.lt_of_lt_of_le hi HJ9.size) fun e=>by have:=(HJ9.ow.lt _ i e.symm).1;have:=HBB.out;omega⟩))
 have hbx:=HJ9.rd.box.keep (hgr.block b HJ9.lt fun e=>HJ9.own 7 e.symm)
 have HT10:=hid (HT9.keep (hgr.block q HT9.lt fun e=>HJ9.ow.ne 30 7 q (by decide) H30.out e.symm))
 have hS10:(fun W=>W.cell? ⟨b,7,none⟩=some (.slice pn (anamesP S.p).length cn)/\W.cell? ⟨q,0,none⟩=some (.string ⟨s.toArray⟩)) w10:=⟨by rw [<- HOA.out];exact hbx.at 7 rfl,HT10.at 0 rfl⟩
 have c0:=hS10.1
 have f0:=hbx.fr 7
 clear hg hgr hm hbx hS9
 refine hK _ _ (.inr (.inr hS10)) ?_
 clear hK K
 (refine npW (v:=?_) 12 (.inr hS10) ?_ ?_;rotate_left;(focus rintro w' _;go_simp;try rfl);simp only [aP])
 (refine nxW (v:=?_) 12 hS10 ?_ ?_;rotate_left;(focus rintro w' ⟨s0,s1⟩;go_simp;try rfl);simp only [aP])
 refine oy 11 fun K hK=>?_
 go_simp
 refine hK _ _ (.inl rfl) (dN ?_)
 clear hK K
 simp only [onlyN,Exit.then]
 clear hFa
 clear c0 f0 hS10
 generalize hw:World.setCell _ _ _=w11 at HPJ ⊢
 have HBW11:=hid (show Below B w w11 from by rw [<- hw];exact HB10'.setCell (p:=⟨b,7,none⟩) HBB.out _)
 have HT11:=hid (show BxL 87 q [.string ⟨s.toArray⟩,.int .i64 (n:Int)] w11 from by rw [<- hw];exact HT10.keep (heap_ot (by have:=HQB.out;omega) _))
 clear hw
 obtain ⟨OC,hOC⟩:∃ o,upd OB 7 (.slice p9 n9 c9)=o:=⟨_,rfl⟩
 rw [hOC] at HPJ
 have H30C:=hid (show (OC 30).ownBlock=some q from by rw [<- hOC,upd_ne _ _ (by decide)];exact H30.out)
 have HOC:=hid (show OC 2=.slice pl S.p.arrays.length cl from by rw [<- hOC,upd_ne _ _ (by decide)];exact HOR.out)
 have HJ11:=hid HPJ.out
 have HLA:=hid HLT.out
 clear hOC HPJ
 go_upto_region 5 with fail
 have hS:(fun W=>W.cell? ⟨b,2,none⟩=some (.slice pl S.p.arrays.length cl)/\W.cell? ⟨q,0,none⟩=some (.string ⟨s.toArray⟩)/\W.cell? ⟨q,1,none⟩=some (.int .i64 (n:Int))) w11.drew:=⟨by rw [<- HOC.out];exact HJ11.rd.box.at 2 rfl,HT11.at 0 rfl,HT11.at 1 rfl⟩
 have hFa:=fT
 refine rgN (fun W=>W.cell? ⟨b,2,none⟩=some (.slice pl S.p.arrays.length cl)/\W.cell? ⟨q,0,none⟩=some (.string ⟨s.toArray⟩)/\W.cell? ⟨q,1,none⟩=some (.int .i64 (n:Int))) 12 (by kernel_rfl) ?_
 simp only [zP,Nat.reduceAdd]
 iterate 7 (refine nxW (v:=?_) 13 hS ?_ ?_;rotate_left;(focus rintro w' ⟨s0,s1,s2⟩;go_simp;try rfl);simp only [aP])
 refine oy 7 fun K hK=>?_
 go_simp
 first | generalize hw:World.drew (World.alloc _ _)=w12 | generalize hw:World.alloc _ _=w12
 have HB12:=hid (show Below w11.heap.size w11 w12 from by rw [<- hw];first | exact (bA).drew | exact (bA))
 have HY12:=hid (show BxL 87 w11.heap.size [.string ⟨s.toArray⟩,.int .i64 (n:Int)] w12 from by rw [<- hw];first | exact (BxL.new _ _ _).bel (Below.refl _ _).drew | exact BxL.new _ _ _)
 have HJ12:=hid (HJ11.below HB12.out)
 have HT12:=hid (HT11.bel HB12.out)
 have hS12:(fun W=>W.cell? ⟨b,2,none⟩=some (.slice pl S.p.arrays.length cl)/\W.cell? ⟨q,0,none⟩=some (.string ⟨s.toArray⟩)/\W.cell? ⟨q,1,none⟩=some (.int .i64 (n:Int))) w12:=⟨by rw [<- HOC.out];exact HJ12.rd.box.at 2 rfl,HT12.at 0 rfl,HT12.at 1 rfl⟩
 clear hw hS
 refine hK _ _ (.inr (.inr hS12)) ?_
 clear hK K
 refine oy 8 fun K hK=>?_
 refine wpIn_pushB (R:=fun _=>False) (B:=b) (K:=kAr) (v := .slice pl S.p.arrays.length cl) (l:=S.p.arrays) (x:=(⟨s,(n:Int)⟩:Ar)) (te:=87) hFa (.tmp 41) (.tmp 43) 23 rfl Tryz.underlying23 _ 24 info_arP rfl (by have h:=HJ12.ar;rw [HOC.out] at h;exact h.arr) (fun i hi=>hi.elim) rfl HY12.out (by rfl) (by rfl) (by have:=HLA.out;omega) (by have:=HLA.out;unfold maxLen;omega) (Nat.le_of_lt HJ12.lt) ?_
 intro v' w13 hg hgr hm
 obtain ⟨p9,c9,hv9⟩:=hg.slc
 obtain ⟨n9,hn9⟩:∃ n',(S.p.arrays++[(⟨s,(n:Int)⟩:Ar)]).length=n':=⟨_,rfl⟩
 rw [hn9] at hv9
 subst hv9
 clear hn9
 rw [<- HOC.out] at hgr hm
 have HPJ:=hid (HJ11.grow2 HB12.out hgr hm hg).1
 have HB13':=hid (show Below B w w13 from HBW11.trans ((HB12.mono HJ11.size).trans ⟨hgr.os,hgr.tape,hgr.output,hgr.size,fun i hi=>hgr.block i (Nat.lt_of_lt_of_le hi HJ12.size) fun e=>by have:=(HJ12.ow.lt _ i e.symm).1;have:=HBB.out;omega⟩))
 have hbx:=HJ12.rd.box.keep (hgr.block b HJ12.lt fun e=>HJ12.own 2 e.symm)
 have HT13:=hid (HT12.keep (hgr.block q HT12.lt fun e=>HJ12.ow.ne 30 2 q (by decide) H30C.out e.symm))
 have hS13:(fun W=>W.cell? ⟨b,2,none⟩=some (.slice pl S.p.arrays.length cl)/\W.cell? ⟨q,0,none⟩=some (.string ⟨s.toArray⟩)/\W.cell? ⟨q,1,none⟩=some (.int .i64 (n:Int))) w13:=⟨by rw [<- HOC.out];exact hbx.at 2 rfl,HT13.at 0 rfl,HT13.at 1 rfl⟩
 have c0:=hS13.1
 have f0:=hbx.fr 2
 clear hg hgr hm hbx hS12
 refine hK _ _ (.inr (.inr hS13)) ?_
 clear hK K
 iterate 2 (refine npW (v:=?_) 13 (.inr hS13) ?_ ?_;rotate_left;(focus rintro w' _;go_simp;try rfl);simp only [aP])
 (refine nxW (v:=?_) 13 hS13 ?_ ?_;rotate_left;(focus rintro w' ⟨s0,s1,s2⟩;go_simp;try rfl);simp only [aP])
 refine oy 12 fun K hK=>?_
 go_simp
 refine hK _ _ (.inl rfl) (dN ?_)
 clear hK K
 simp only [onlyN,Exit.then]
 clear hFa
 clear c0 f0 hS13
 generalize hw:World.setCell _ _ _=w14 at HPJ ⊢
 have HBW14:=hid (show Below B w w14 from by rw [<- hw];exact HB13'.setCell (p:=⟨b,2,none⟩) HBB.out _)
 clear hw
 have HP14:=hid (HPJ.toP (by simp [anamesP]) rfl)
 have c12:=HP14.rd.box.at 12 rfl
 have f12:=HP14.rd.box.fr 12
 go_wp2_with fail
 first | go_end0 | refine bodyPost_ret (results_none rfl _ _ _) rfl ?_
 exact ⟨HBW14.setCell (p:=⟨b,12,none⟩) HBB.out _,.inr ⟨_,_,k6,by (rw [HME.out,HM4.out];dsimp only;unfold array3;rw [HM6.out];dsimp only;rw [HM8.out]),rfl,HP14.unbox.cell12 2⟩⟩
end Go.Proofs.YtoofbgoeipijcaaGreatDoor
