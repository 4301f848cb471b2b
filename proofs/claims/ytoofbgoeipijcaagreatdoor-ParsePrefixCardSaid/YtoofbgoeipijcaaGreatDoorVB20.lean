/-
 A part.
-/
import Derived.Test.YtoofbgoeipijcaaGreatDoorVSPnF
namespace Go.Proofs.YtoofbgoeipijcaaGreatDoor
set_option maxRecDepth 100000
set_option maxHeartbeats 4000000
set_option linter.all false
open Go.RowKit Go.Shelf
attribute [local go_sem] Oper.semAt_some
theorem chan_long {S:PS} {f:Int × Int} {r:List Wd} (h:¬ S.p.chans.length<32):chanD S f r=.error (f,5):=by unfold chanD;simp only [needM,decide_eq_false h];rfl
theorem array_long {S:PS} {f:Int × Int} {r:List Wd} (h:¬ S.p.arrays.length<32):arrayD S f r=.error (f,5):=by unfold arrayD;simp only [needM,decide_eq_false h];rfl
theorem func_long {S:PS} {f:Int × Int} {r:List Wd} (h:¬ S.p.funcs.length<32):funcD S f r=.error (f,5):=by unfold funcD;simp only [needM,decide_eq_false h];rfl
def chan2 (S:PS):PE (Bs × List Wd)->PE PS
 | .error e => .error e
 | .ok (s,q)=>match endP q with
  | .error e => .error e
  | .ok _ => .ok { S with p:={ S.p with chans:=S.p.chans++[s] } }
theorem chan_eq {S:PS} {f:Int × Int} {r:List Wd} (h:S.p.chans.length<32):chanD S f r=chan2 S (freshP f S.p.chans r):=by
 unfold chanD chan2;simp only [needM,decide_eq_true h,if_true,bind,Except.bind]
 cases freshP f S.p.chans r with
 | error e=>rfl
 | ok p=>dsimp only;cases endP p.2 <;> rfl
def array3 (S:PS) (s:Bs):PE (Nat × List Wd)->PE PS
 | .error e => .error e
 | .ok (n,q)=>match endP q with
  | .error e => .error e
  | .ok _ => .ok { S with p:={ S.p with arrays:=S.p.arrays++[⟨s,(n:Int)⟩] },step:=2 }
theorem array_eq {S:PS} {f:Int × Int} {r:List Wd} (h:S.p.arrays.length<32):arrayD S f r=match freshP f (anamesP S.p) r with | .error e => .error e | .ok (s,q)=>array3 S s (numberP f 64 q):=by
 unfold arrayD array3;simp only [needM,decide_eq_true h,if_true,bind,Except.bind]
 cases freshP f (anamesP S.p) r with
 | error e=>rfl
 | ok p =>
  dsimp only
  cases numberP f 64 p.2 with
  | error e=>rfl
  | ok p2=>dsimp only;cases endP p2.2 <;> rfl
theorem pchannel_any {B b:Nat} {O:Nat->Value} {pw:Option Addr} {cw:Nat} {ws:List Wd} {S:PS} {k:Nat} {w:World} (hp:Pm B b O pw cw ws S k w) (hw:WOk ws) (hok:SOk S):Calls Tryz.prog 180 #[.pointer (some ⟨b,0,none⟩)] w (InsP B b pw cw ws (chanD S (fpos ws) (ws.drop k)) w):=by
 have hd:=hp.rd
 have hk:=hp.le
 have hB:=hp.ge
 have HPM:=hid hp;have HOK:=hid hok
 clear hp hok
 have HD:=hid hd;have HW:=hid hw;have HBB:=hid hB;have HLE:=hid hk;have HSZ:=hid hd.box.lt
 have HBZ:=hid (show B<=w.heap.size from Nat.le_of_lt (Nat.lt_of_le_of_lt hB hd.box.lt))
 clear hd hw hB hk
 obtain ⟨pl,cl,hO⟩:=HPM.rs.ch.slc
 have HO:=hid hO
 have hS:(fun W=>W.cell? ⟨b,1,none⟩=some (.slice pl S.p.chans.length cl)) w.drew:=by rw [<- hO];exact HD.box.at 1 rfl
 clear hO
 go_enter Tryz.func180,Tryz.ntmps180
 go_upto_region 0 with fail
 have hFa:=fT
 refine rgP (fun _ _ _ h=>h) (fun W=>W.cell? ⟨b,1,none⟩=some (.slice pl S.p.chans.length cl)) 10 (by kernel_rfl) ?_
 simp only [zP,Nat.reduceAdd]
 iterate 8 (refine nxW (v:=?_) 10 hS ?_ ?_;rotate_left;(focus rintro w' s0;go_simp;try rfl);simp only [aP])
 refine oy 8 fun K hK=>?_
 go_simp
 (with_reducible refine (callsIn_wide.2 (first_any (HD.out.below (Below.refl _ _).drew) HW.out)).mono ?_)
 rintro e w2 ⟨rfl,hb⟩
 have HP2:=hid (HPM.dr.below hb)
 have HB2:=hid ((Below.refl B w).drew.trans (hb.mono HBZ.out))
 have HN2:=hid ((But.refl (fun i=>i=b) w).dr.trans (But.of_below _ hb))
 have hS2:(fun W=>W.cell? ⟨b,1,none⟩=some (.slice pl S.p.chans.length cl)) w2:=by rw [<- HO.out];exact HP2.rd.box.at 1 rfl
 clear hb hS
 refine hK _ _ (.inr (.inr hS2)) ?_
 clear hK K
 refine oy 9 fun K hK=>?_
 go_simp
 (with_reducible refine (callsIn_wide.2 (pneed_any _ (fpos ws) _ _)).mono ?_)
 rintro e w3 ⟨hb,⟨hc,rfl⟩ | ⟨hc,rfl⟩⟩
 rotate_left
 ·exact ⟨rfl,HB2.trans (hb.mono HP2.size),.inl ⟨_,chan_long (by have h:=hc;simp at h;omega),rfl⟩⟩
 have HLT:=hid (show S.p.chans.length<32 from by have h:=hc;simp at h;omega)
 have HP3:=hid (HP2.below hb)
 have HB3:=hid (HB2.trans (hb.mono HP2.size))
 have HN3:=hid (HN2.trans (But.of_below _ hb))
 have hS3:(fun W=>W.cell? ⟨b,1,none⟩=some (.slice pl S.p.chans.length cl)) w3:=by rw [<- HO.out];exact HP3.rd.box.at 1 rfl
 clear hb hc hS2
 refine hK _ _ (.inr (.inr hS3)) (dN ?_)
 clear hK K
 simp only [onlyP,Exit.then]
 clear hFa
 clear hS3
 go_upto_region 1 with fail
 have HME:=hid (chan_eq (S:=S) (f:=fpos ws) (r:=ws.drop k) HLT.out)
 have hS:(fun W=>W.cell? ⟨b,1,none⟩=some (.slice pl S.p.chans.length cl)) w3.drew:=by rw [<- HO.out];exact HP3.rd.box.at 1 rfl
 have hFa:=fT
 refine rgP (fun _ _ _ h=>h) (fun W=>W.cell? ⟨b,1,none⟩=some (.slice pl S.p.chans.length cl)) 18 (by kernel_rfl) ?_
 simp only [zP,Nat.reduceAdd]
 iterate 12 (refine nxW (v:=?_) 19 hS ?_ ?_;rotate_left;(focus rintro w' s0;go_simp;try rfl);simp only [aP])
 refine oy 12 fun K hK=>?_
 go_simp
 (with_reducible refine (callsIn_wide.2 (pfresh_any HP3.out.dr.rd HP3.out.le HW.out HBB.out (show SlG kStr (fun i=>i<w3.drew.heap.size/\i ≠ b) w3.drew (.slice pl S.p.chans.length cl) S.p.chans from by rw [<- HO.out];exact HP3.out.dr.rs.ch.slb (by have:=HLT.out;omega) (HP3.out.dr.own 1)) (fun i hi=>hi))).mono ?_)
 rintro e w4 ⟨hb,⟨f1,hm,rfl⟩ | ⟨s,k4,v,hm,hk,rfl,hv,hd,hn⟩⟩
 ·exact ⟨rfl,HB3.drew.trans hb,.inl ⟨f1,by (rw [HME.out,hm];rfl),rfl⟩⟩
 obtain rfl:v=.string ⟨s.toArray⟩:=hv
 have HM4:=hid hm
 have HP4:=hid (HP3.dr.read hd hn hk)
 have HBB4:=hid (HB3.drew.trans hb)
 have hS4:(fun W=>W.cell? ⟨b,1,none⟩=some (.slice pl S.p.chans.length cl)) w4:=by rw [<- HO.out];exact HP4.rd.box.at 1 rfl
 clear hb hm hk hd hn hS
 refine hK _ _ (.inr (.inr hS4)) ?_
 clear hK K
 refine oy 13 fun K hK=>?_
 go_simp
 generalize hw:World.alloc _ _=w5
 have HB5:=hid (show Below w4.heap.size w4 w5 from by rw [<- hw];exact bA)
 have HY5:=hid (show BxL 9 w4.heap.size [.string ⟨s.toArray⟩] w5 from by rw [<- hw];exact BxL.new _ _ _)
 have HP5:=hid (HP4.below HB5.out)
 have hS5:(fun W=>W.cell? ⟨b,1,none⟩=some (.slice pl S.p.chans.length cl)) w5:=by rw [<- HO.out];exact HP5.rd.box.at 1 rfl
 clear hw hS4
 refine hK _ _ (.inr (.inr hS5)) ?_
 clear hK K
 refine oy 14 fun K hK=>?_
 refine wpIn_pushB (R:=fun _=>False) (B:=b) (K:=kStr) (v := .slice pl S.p.chans.length cl) (l:=S.p.chans) (x:=s) (cs:=[.string ⟨s.toArray⟩]) (te:=9) hFa (.tmp 17) (.tmp 25) 22 rfl Tryz.underlying22 _ 16 info_str rfl (by have h:=HP5.rs.ch;rw [HO.out] at h;exact h.str) (fun i hi=>hi.elim) rfl HY5.out (by rfl) (by rfl) (by have:=HLT.out;omega) (by have:=HLT.out;unfold maxLen;omega) (Nat.le_of_lt HP5.lt) ?_
 intro v' w6 hg6 hgr hm6
 obtain ⟨p9,c9,hv9⟩:=hg6.slc
 obtain ⟨n9,hn9⟩:∃ n,(S.p.chans++[s]).length=n:=⟨_,rfl⟩
 rw [hn9] at hv9
 subst hv9
 clear hn9
 rw [<- HO.out] at hgr hm6
 have HPJ:=hid (HP4.toJ.grow1 HB5.out hgr hm6 hg6).1
 have HB6:=hid (show Below B w w6 from HBB4.trans ((HB5.mono HP4.size).trans ⟨hgr.os,hgr.tape,hgr.output,hgr.size,fun i hi=>hgr.block i (Nat.lt_of_lt_of_le hi HP5.size) fun e=>by have:=(HP5.rs.ow.lt _ i e.symm).1;have:=HBB.out;omega⟩))
 have hbx:=HP5.rd.box.keep (hgr.block b HP5.lt fun e=>HP5.own 1 e.symm)
 have hS6:(fun W=>W.cell? ⟨b,1,none⟩=some (.slice pl S.p.chans.length cl)) w6:=by rw [<- HO.out];exact hbx.at 1 rfl
 have c1:=hS6
 have f1:=hbx.fr 1
 clear hg6 hgr hm6 hbx hS5
 refine hK _ _ (.inr (.inr hS6)) ?_
 clear hK K
 iterate 2 (refine npW (v:=?_) 19 (.inr hS6) ?_ ?_;rotate_left;(focus rintro w' _;go_simp;try rfl);simp only [aP])
 (refine nxW (v:=?_) 19 hS6 ?_ ?_;rotate_left;(focus rintro w' s0;go_simp;try rfl);simp only [aP])
 refine oy 18 fun K hK=>?_
 go_simp
 refine hK _ _ (.inl rfl) (dN ?_)
 clear hK K
 simp only [onlyP,Exit.then]
 clear hFa
 clear c1 f1 hS6
 generalize hw:World.setCell _ _ _=w7 at HPJ ⊢
 have HP7:=hid (HPJ.toP rfl rfl)
 have HB7:=hid (show Below B w w7 from by rw [<- hw];exact HB6.setCell (p:=⟨b,1,none⟩) HBB.out _)
 clear hw
 go_wp2_with (go_at_call 146;(with_reducible refine (pend_any HP7.out.rd HP7.out.le HW.out HBB.out).mono ?_);rintro e w8 ⟨hb,⟨f1,hm,rfl⟩ | ⟨hm,hnil,rfl,hd,hn⟩⟩;(focus (exact ⟨rfl,HB7.out.trans hb,.inl ⟨f1,by (rw [HME.out,HM4.out];unfold chan2;dsimp only;rw [hm]),rfl⟩⟩));have HM8:=hid hm;have HP8:=hid (HP7.out.read hd hn HP7.out.le);have HB8:=hid (HB7.out.trans hb);clear hb hm hnil hd hn)
 first | go_end0 | refine bodyPost_ret (results_none rfl _ _ _) rfl ?_
 exact ⟨HB8.out,.inr ⟨_,_,_,by (rw [HME.out,HM4.out];unfold chan2;dsimp only;rw [HM8.out]),rfl,HP8.out⟩⟩
theorem info_arP:(Tryz.prog.info? 87).map (fun i=>(i.zero,i.size,i.bytes))=some (some (.agg #[.string ⟨#[]⟩,.int .i64 0]),kAr.n,24):=by kernel_rfl
theorem anames_len (p:Pg):(anamesP p).length=p.arrays.length:=by simp [anamesP]
theorem parray_any {B b:Nat} {O:Nat->Value} {pw:Option Addr} {cw:Nat} {ws:List Wd} {S:PS} {k:Nat} {w:World} (hp:Pm B b O pw cw ws S k w) (hw:WOk ws) (hok:SOk S):Calls Tryz.prog 181 #[.pointer (some ⟨b,0,none⟩)] w (InsP B b pw cw ws (arrayD S (fpos ws) (ws.drop k)) w):=by
 have hd:=hp.rd
 have hk:=hp.le
 have hB:=hp.ge
 have HPM:=hid hp;have HOK:=hid hok
 clear hp hok
 have HD:=hid hd;have HW:=hid hw;have HBB:=hid hB;have HLE:=hid hk;have HSZ:=hid hd.box.lt
 have HBZ:=hid (show B<=w.heap.size from Nat.le_of_lt (Nat.lt_of_le_of_lt hB hd.box.lt))
 clear hd hw hB hk
 obtain ⟨pn,cn,hON⟩:=HPM.rs.an.slc
 have HON:=hid hON
 clear hON
 obtain ⟨pl,cl,hO⟩:=HPM.rs.ar.slc
 have HO:=hid hO
 have hS:(fun W=>W.cell? ⟨b,2,none⟩=some (.slice pl S.p.arrays.length cl)) w.drew:=by rw [<- hO];exact HD.box.at 2 rfl
 clear hO
 go_enter Tryz.func181,Tryz.ntmps181
 go_upto_region 0 with fail
 have hFa:=fT
 refine rgP (fun _ _ _ h=>h) (fun W=>W.cell? ⟨b,2,none⟩=some (.slice pl S.p.arrays.length cl)) 10 (by kernel_rfl) ?_
 simp only [zP,Nat.reduceAdd]
 iterate 8 (refine nxW (v:=?_) 10 hS ?_ ?_;rotate_left;(focus rintro w' s0;go_simp;try rfl);simp only [aP])
 refine oy 8 fun K hK=>?_
 go_simp
 (with_reducible refine (callsIn_wide.2 (first_any (HD.out.below (Below.refl _ _).drew) HW.out)).mono ?_)
 rintro e w2 ⟨rfl,hb⟩
 have HP2:=hid (HPM.dr.below hb)
 have HB2:=hid ((Below.refl B w).drew.trans (hb.mono HBZ.out))
 have HN2:=hid ((But.refl (fun i=>i=b) w).dr.trans (But.of_below _ hb))
 have hS2:(fun W=>W.cell? ⟨b,2,none⟩=some (.slice pl S.p.arrays.length cl)) w2:=by rw [<- HO.out];exact HP2.rd.box.at 2 rfl
 clear hb hS
 refine hK _ _ (.inr (.inr hS2)) ?_
 clear hK K
 refine oy 9 fun K hK=>?_
 go_simp
 (with_reducible refine (callsIn_wide.2 (pneed_any _ (fpos ws) _ _)).mono ?_)
 rintro e w3 ⟨hb,⟨hc,rfl⟩ | ⟨hc,rfl⟩⟩
 rotate_left
 ·exact ⟨rfl,HB2.trans (hb.mono HP2.size),.inl ⟨_,array_long (by have h:=hc;simp at h;omega),rfl⟩⟩
 have HLT:=hid (show S.p.arrays.length<32 from by have h:=hc;simp at h;omega)
 have HP3:=hid (HP2.below hb)
 have HB3:=hid (HB2.trans (hb.mono HP2.size))
 have HN3:=hid (HN2.trans (But.of_below _ hb))
 have hS3:(fun W=>W.cell? ⟨b,2,none⟩=some (.slice pl S.p.arrays.length cl)) w3:=by rw [<- HO.out];exact HP3.rd.box.at 2 rfl
 clear hb hc hS2
 refine hK _ _ (.inr (.inr hS3)) (dN ?_)
 clear hK K
 simp only [onlyP,Exit.then]
 clear hFa
 clear hS3
 go_upto_region 1 with fail
 have HME:=hid (array_eq (S:=S) (f:=fpos ws) (r:=ws.drop k) HLT.out)
 have HLA:=hid (show (anamesP S.p).length<32 from by rw [anames_len];exact HLT.out)
 have HFR:=hid (show Calls Tryz.prog 214 #[.pointer (some ⟨b,0,none⟩),.slice pn (anamesP S.p).length cn] w3 _ from pfresh_any HP3.rd HP3.le HW.out HBB.out (show SlG kStr (fun i=>i<w3.heap.size/\i ≠ b) w3 (.slice pn (anamesP S.p).length cn) (anamesP S.p) from by rw [<- HON.out];exact HP3.rs.an.slb (by have:=HLA.out;omega) (HP3.own 7)) (fun i hi=>hi))
 have c7:=HP3.rd.box.at 7 rfl
 rw [HON.out] at c7
 go_upto_region 2 with (go_at_call 214;(with_reducible refine HFR.out.mono ?_);rintro e w4 ⟨hb,⟨f1,hm,rfl⟩ | ⟨s,k4,v,hm,hk,rfl,hv,hd,hn⟩⟩;(focus (exact ⟨rfl,HB3.out.trans hb,.inl ⟨f1,by (rw [HME.out,hm]),rfl⟩⟩));obtain rfl:v=.string ⟨s.toArray⟩:=hv;have HM4:=hid hm;have HP4:=hid (HP3.out.read hd hn hk);have HBW4:=hid (HB3.out.trans hb);clear hb hm hk hd hn c7)
 generalize hw:World.alloc _ _=w5
 have HT5:=hid (show BxL 87 w4.heap.size [.string ⟨s.toArray⟩,.int .i64 0] w5 from by rw [<- hw];exact BxL.new _ _ _)
 have HP5:=hid (show Pm B b (upd O 30 (ownV w4.heap.size)) pw cw ws S k4 w5 from by rw [<- hw];exact HP4.box _)
 have HBW5:=hid (show Below B w w5 from by rw [<- hw];exact HBW4.alloc HP4.size _)
 have HQB:=hid (show b<w4.heap.size from HP4.lt)
 have HQ5:=hid (show B<=w4.heap.size from HP4.size)
 clear hw
 generalize hq:w4.heap.size=q at HT5 HP5 HQB HQ5 ⊢
 clear hq
 obtain ⟨OB,hOB⟩:∃ o,upd O 30 (ownV q)=o:=⟨_,rfl⟩
 rw [hOB] at HP5
 have H30:=hid (show (OB 30).ownBlock=some q from by rw [<- hOB,upd_eq];rfl)
 have HOI:=hid (show ∀ i,i ≠ 30->OB i=O i from fun i h=>by rw [<- hOB,upd_ne _ _ h])
 clear hOB
 have HNUM:=hid (show Calls Tryz.prog 213 #[.pointer (some ⟨b,0,none⟩),.int .u64 64] w5 _ from pnumber_any 64 lrf HP5.rd HP5.le HW.out HBB.out)
 go_upto_region 3 with (go_at_call 213;(with_reducible refine HNUM.out.mono ?_);rintro e w6 ⟨hb,⟨f1,hm,rfl⟩ | ⟨n,k6,v,hm,hk,rfl,hv,hd,hn⟩⟩;(focus (exact ⟨rfl,HBW5.out.trans hb,.inl ⟨f1,by (rw [HME.out,HM4.out];dsimp only;unfold array3;rw [hm]),rfl⟩⟩));obtain rfl:v=.int .i64 (n:Int):=hv;have HM6:=hid hm;have HP6:=hid (HP5.out.read hd hn hk);have HBW6:=hid (HBW5.out.trans hb);have HT6:=hid (HT5.out.but hn (by have:=HQB.out;omega));have t1:=HT6.out.at 1 rfl;have f1:=HT6.out.fr 1;clear hb hm hk hd hn)
 generalize hw:World.setCell _ _ _=w7
 have HP7:=hid (show Pm B b OB pw cw ws S k6 w7 from by rw [<- hw];exact HP6.poke H30.out _)
 have HBW7:=hid (show Below B w w7 from by rw [<- hw];exact HBW6.setCell (p:=⟨q,1,none⟩) HQ5.out _)
 have HT7:=hid (show BxL 87 q [.string ⟨s.toArray⟩,.int .i64 (n:Int)] w7 from by rw [<- hw];exact HT6.set 1 _)
 clear hw t1 f1
 go_upto_region 4 with (go_at_call 146;(with_reducible refine (pend_any HP7.out.rd HP7.out.le HW.out HBB.out).mono ?_);rintro e w8 ⟨hb,⟨f1,hm,rfl⟩ | ⟨hm,hnil,rfl,hd,hn⟩⟩;(focus (exact ⟨rfl,HBW7.out.trans hb,.inl ⟨f1,by (rw [HME.out,HM4.out];dsimp only;unfold array3;rw [HM6.out];dsimp only;rw [hm]),rfl⟩⟩));have HM8:=hid hm;have HJ8:=hid (HP7.out.read hd hn HP7.out.le).toJ;have HBW8:=hid (HBW7.out.trans hb);have HT8:=hid (HT7.out.but hn (by have:=HQB.out;omega));clear hb hm hnil hd hn)
 have HOA:=hid (show OB 7=.slice pn (anamesP S.p).length cn from by rw [HOI.out 7 (by decide),HON.out])
 have HOR:=hid (show OB 2=.slice pl S.p.arrays.length cl from by rw [HOI.out 2 (by decide),HO.out])
 have hS:(fun W=>W.cell? ⟨b,7,none⟩=some (.slice pn (anamesP S.p).length cn)/\W.cell? ⟨q,0,none⟩=some (.string ⟨s.toArray⟩)) w8.drew:=⟨by rw [<- HOA.out];exact HJ8.rd.box.at 7 rfl,HT8.at 0 rfl⟩
 have hFa:=fT
 refine rgN (fun W=>W.cell? ⟨b,7,none⟩=some (.slice pn (anamesP S.p).length cn)/\W.cell? ⟨q,0,none⟩=some (.string ⟨s.toArray⟩)) 11 (by kernel_rfl) ?_
 simp only [zP,Nat.reduceAdd]
 iterate 7 (refine nxW (v:=?_) 12 hS ?_ ?_;rotate_left;(focus rintro w' ⟨s0,s1⟩;go_simp;try rfl);simp only [aP])
 refine oy 7 fun K hK=>?_
 go_simp
 first | generalize hw:World.drew (World.alloc _ _)=w9 | generalize hw:World.alloc _ _=w9
 have HB9:=hid (show Below w8.heap.size w8 w9 from by rw [<- hw];first | exact (bA).drew | exact (bA))
 have HY9:=hid (show BxL 9 w8.heap.size [.string ⟨s.toArray⟩] w9 from by rw [<- hw];first | exact (BxL.new _ _ _).bel (Below.refl _ _).drew | exact BxL.new _ _ _)
 have HJ9:=hid (HJ8.below HB9.out)
 have HT9:=hid (HT8.bel HB9.out)
 have hS9:(fun W=>W.cell? ⟨b,7,none⟩=some (.slice pn (anamesP S.p).length cn)/\W.cell? ⟨q,0,none⟩=some (.string ⟨s.toArray⟩)) w9:=⟨by rw [<- HOA.out];exact HJ9.rd.box.at 7 rfl,HT9.at 0 rfl⟩
 clear hw hS
 refine hK _ _ (.inr (.inr hS9)) ?_
 clear hK K
 refine oy 8 fun K hK=>?_
 refine wpIn_pushB (R:=fun _=>False) (B:=b) (K:=kStr) (v := .slice pn (anamesP S.p).length cn) (l:=anamesP S.p) (x:=s) (te:=9) hFa (.tmp 29) (.tmp 32) 22 rfl Tryz.underlying22 _ 16 info_str rfl (by have h:=HJ9.an;rw [HOA.out] at h;exact h.str) (fun i hi=>hi.elim) rfl HY9.out (by rfl) (by rfl) (by have:=HLA.out;omega) (by have:=HLA.out;unfold maxLen;omega) (Nat.le_of_lt HJ9.lt) ?_
 intro v' w10 hg hgr hm
 obtain ⟨p9,c9,hv9⟩:=hg.slc
 obtain ⟨n9,hn9⟩:∃ n',(anamesP S.p++[s]).length=n':=⟨_,rfl⟩
 rw [hn9] at hv9
 subst hv9
 clear hn9
 rw [<- HOA.out] at hgr hm
 have HPJ:=hid (HJ8.grow7 HB9.out hgr hm hg).1
 have HB10':=hid (show Below B w w10 from HBW8.trans ((HB9.mono HJ8.size).trans ⟨hgr.os,hgr.tape,hgr.output,hgr.size,fun i hi=>hgr.block i (Nat.lt_of_lt_of_le hi HJ9.size) fun e=>by have:=(HJ9.ow.lt _ i e.symm).1;have:=HBB.out;omega⟩))
 have hbx:=HJ9.rd.box.keep (hgr.block b HJ9.lt fun e=>HJ9.own 7 e.symm)
 have HT10:=hid (HT9.keep (hgr.block q HT9.lt fun e=>HJ9.ow.ne 30 7 q (by decide) H30.out e.symm))
 have hS10:(fun W=>W.cell? ⟨b,7,none⟩=some (.slice pn (anamesP S.p).length cn)/\W.cell? ⟨q,0,none⟩=some (.string ⟨s.toArray⟩)) w10:=⟨by rw [<- HOA.out];exact hbx.at 7 rfl,HT10.at 0 rfl⟩
 have c0:=hS10.1
 have f0:=hbx.fr 7
 clear hg hgr hm hbx hS9
 refine hK _ _ (.inr (.inr hS10)) ?_
 clear hK K
 (refine npW (v:=?_) 12 (.inr hS10) ?_ ?_;rotate_left;(focus rintro w' _;go_simp;try rfl);simp only [aP])
 (refine nxW (v:=?_) 12 hS10 ?_ ?_;rotate_left;(focus rintro w' ⟨s0,s1⟩;go_simp;try rfl);simp only [aP])
 refine oy 11 fun K hK=>?_
 go_simp
 refine hK _ _ (.inl rfl) (dN ?_)
 clear hK K
 simp only [onlyN,Exit.then]
 clear hFa
 clear c0 f0 hS10
 generalize hw:World.setCell _ _ _=w11 at HPJ ⊢
 have HBW11:=hid (show Below B w w11 from by rw [<- hw];exact HB10'.setCell (p:=⟨b,7,none⟩) HBB.out _)
 have HT11:=hid (show BxL 87 q [.string ⟨s.toArray⟩,.int .i64 (n:Int)] w11 from by rw [<- hw];exact HT10.keep (heap_ot (by have:=HQB.out;omega) _))
 clear hw
 obtain ⟨OC,hOC⟩:∃ o,upd OB 7 (.slice p9 n9 c9)=o:=⟨_,rfl⟩
 rw [hOC] at HPJ
 have H30C:=hid (show (OC 30).ownBlock=some q from by rw [<- hOC,upd_ne _ _ (by decide)];exact H30.out)
 have HOC:=hid (show OC 2=.slice pl S.p.arrays.length cl from by rw [<- hOC,upd_ne _ _ (by decide)];exact HOR.out)
 have HJ11:=hid HPJ.out
 have HLA:=hid HLT.out
 clear hOC HPJ
 go_upto_region 5 with fail
 have hS:(fun W=>W.cell? ⟨b,2,none⟩=some (.slice pl S.p.arrays.length cl)/\W.cell? ⟨q,0,none⟩=some (.string ⟨s.toArray⟩)/\W.cell? ⟨q,1,none⟩=some (.int .i64 (n:Int))) w11.drew:=⟨by rw [<- HOC.out];exact HJ11.rd.box.at 2 rfl,HT11.at 0 rfl,HT11.at 1 rfl⟩
 have hFa:=fT
 refine rgN (fun W=>W.cell? ⟨b,2,none⟩=some (.slice pl S.p.arrays.length cl)/\W.cell? ⟨q,0,none⟩=some (.string ⟨s.toArray⟩)/\W.cell? ⟨q,1,none⟩=some (.int .i64 (n:Int))) 12 (by kernel_rfl) ?_
 simp only [zP,Nat.reduceAdd]
 iterate 7 (refine nxW (v:=?_) 13 hS ?_ ?_;rotate_left;(focus rintro w' ⟨s0,s1,s2⟩;go_simp;try rfl);simp only [aP])
 refine oy 7 fun K hK=>?_
 go_simp
 first | generalize hw:World.drew (World.alloc _ _)=w12 | generalize hw:World.alloc _ _=w12
 have HB12:=hid (show Below w11.heap.size w11 w12 from by rw [<- hw];first | exact (bA).drew | exact (bA))
 have HY12:=hid (show BxL 87 w11.heap.size [.string ⟨s.toArray⟩,.int .i64 (n:Int)] w12 from by rw [<- hw];first | exact (BxL.new _ _ _).bel (Below.refl _ _).drew | exact BxL.new _ _ _)
 have HJ12:=hid (HJ11.below HB12.out)
 have HT12:=hid (HT11.bel HB12.out)
 have hS12:(fun W=>W.cell? ⟨b,2,none⟩=some (.slice pl S.p.arrays.length cl)/\W.cell? ⟨q,0,none⟩=some (.string ⟨s.toArray⟩)/\W.cell? ⟨q,1,none⟩=some (.int .i64 (n:Int))) w12:=⟨by rw [<- HOC.out];exact HJ12.rd.box.at 2 rfl,HT12.at 0 rfl,HT12.at 1 rfl⟩
 clear hw hS
 refine hK _ _ (.inr (.inr hS12)) ?_
 clear hK K
 refine oy 8 fun K hK=>?_
 refine wpIn_pushB (R:=fun _=>False) (B:=b) (K:=kAr) (v := .slice pl S.p.arrays.length cl) (l:=S.p.arrays) (x:=(⟨s,(n:Int)⟩:Ar)) (te:=87) hFa (.tmp 41) (.tmp 43) 23 rfl Tryz.underlying23 _ 24 info_arP rfl (by have h:=HJ12.ar;rw [HOC.out] at h;exact h.arr) (fun i hi=>hi.elim) rfl HY12.out (by rfl) (by rfl) (by have:=HLA.out;omega) (by have:=HLA.out;unfold maxLen;omega) (Nat.le_of_lt HJ12.lt) ?_
 intro v' w13 hg hgr hm
 obtain ⟨p9,c9,hv9⟩:=hg.slc
 obtain ⟨n9,hn9⟩:∃ n',(S.p.arrays++[(⟨s,(n:Int)⟩:Ar)]).length=n':=⟨_,rfl⟩
 rw [hn9] at hv9
 subst hv9
 clear hn9
 rw [<- HOC.out] at hgr hm
 have HPJ:=hid (HJ11.grow2 HB12.out hgr hm hg).1
 have HB13':=hid (show Below B w w13 from HBW11.trans ((HB12.mono HJ11.size).trans ⟨hgr.os,hgr.tape,hgr.output,hgr.size,fun i hi=>hgr.block i (Nat.lt_of_lt_of_le hi HJ12.size) fun e=>by have:=(HJ12.ow.lt _ i e.symm).1;have:=HBB.out;omega⟩))
 have hbx:=HJ12.rd.box.keep (hgr.block b HJ12.lt fun e=>HJ12.own 2 e.symm)
 have HT13:=hid (HT12.keep (hgr.block q HT12.lt fun e=>HJ12.ow.ne 30 2 q (by decide) H30C.out e.symm))
 have hS13:(fun W=>W.cell? ⟨b,2,none⟩=some (.slice pl S.p.arrays.length cl)/\W.cell? ⟨q,0,none⟩=some (.string ⟨s.toArray⟩)/\W.cell? ⟨q,1,none⟩=some (.int .i64 (n:Int))) w13:=⟨by rw [<- HOC.out];exact hbx.at 2 rfl,HT13.at 0 rfl,HT13.at 1 rfl⟩
 have c0:=hS13.1
 have f0:=hbx.fr 2
 clear hg hgr hm hbx hS12
 refine hK _ _ (.inr (.inr hS13)) ?_
 clear hK K
 iterate 2 (refine npW (v:=?_) 13 (.inr hS13) ?_ ?_;rotate_left;(focus rintro w' _;go_simp;try rfl);simp only [aP])
 (refine nxW (v:=?_) 13 hS13 ?_ ?_;rotate_left;(focus rintro w' ⟨s0,s1,s2⟩;go_simp;try rfl);simp only [aP])
 refine oy 12 fun K hK=>?_
 go_simp
 refine hK _ _ (.inl rfl) (dN ?_)
 clear hK K
 simp only [onlyN,Exit.then]
 clear hFa
 clear c0 f0 hS13
 generalize hw:World.setCell _ _ _=w14 at HPJ ⊢
 have HBW14:=hid (show Below B w w14 from by rw [<- hw];exact HB13'.setCell (p:=⟨b,2,none⟩) HBB.out _)
 clear hw
 have HP14:=hid (HPJ.toP (by simp [anamesP]) rfl)
 have c12:=HP14.rd.box.at 12 rfl
 have f12:=HP14.rd.box.fr 12
 go_wp2_with fail
 first | go_end0 | refine bodyPost_ret (results_none rfl _ _ _) rfl ?_
 exact ⟨HBW14.setCell (p:=⟨b,12,none⟩) HBB.out _,.inr ⟨_,_,k6,by (rw [HME.out,HM4.out];dsimp only;unfold array3;rw [HM6.out];dsimp only;rw [HM8.out]),rfl,HP14.unbox.cell12 2⟩⟩
def kFuX:EK (Fu × Bool) where
 n:=5
 pos:=by omega
 E R w cs x:=kFu.E R w cs x.1/\(x.2=true->cs[2]?=some (.slice none 0 0))
 len h:=kFu.len h.1
 one h:=kFu.one h.1
 keep h hf:=⟨kFu.keep h.1 hf,h.2⟩
theorem info_fuP:(Tryz.prog.info? 74).map (fun i=>(i.zero,i.size,i.bytes))=some (some (.agg #[.string ⟨#[]⟩,.slice none 0 0,.slice none 0 0,.int .i64 0,.int .i64 0]),kFuX.n,80):=by kernel_rfl
theorem FuR.slc {b inn:Nat} {O:Nat->Value} {w:World} {fs:List Fu} (h:FuR b O w inn fs):∃ p c,O 3=.slice p fs.length c:=let ⟨_,h1,_⟩:=h;own_sliceG h1
theorem FuR.marked {b inn:Nat} {O:Nat->Value} {w:World} {fs:List Fu} (h:FuR b O w inn fs) (hi:inn ≠ 1):GR kFuX (Fin' b O w) b 74 w (O 3) (fs.map fun f=>(f,false)):=by
 obtain ⟨css,h1,h2⟩:=h
 rcases h2 with ⟨e,_⟩ | ⟨_,_,g1⟩
 ·exact absurd e hi
 ·refine ⟨css,⟨by simp [g1.1],fun i hl hl'=>?_⟩,by rw [List.length_map];exact h1⟩
  rw [List.getElem_map]
  exact ⟨g1.2 i (by simpa using hl) hl',fun e=>by cases e⟩
theorem GR.unmark {R:Nat->Prop} {b e:Nat} {w:World} {v:Value} {fs:List Fu} {f:Fu} (h:GR kFuX R b e w v ((fs.map fun f=>(f,false))++[(f,true)])) :
  ∃ cs0 pv,w.ownsRow b e 5 v (fs++[f]).length (cs0++[[.string ⟨f.nm.toArray⟩,pv,.slice none 0 0,.int .i64 f.pos.1,.int .i64 f.pos.2]]).flatten/\Each kFu R w cs0 fs/\SlG kStr R w pv f.params:=by
 obtain ⟨css,h1,h2⟩:=h
 have hl:css.length=fs.length+1:=by rw [h1.1];simp
 have hlt:fs.length<css.length:=by omega
 have hE:=h1.2 fs.length (by simp) hlt
 rw [List.getElem_append_right (by simp)] at hE
 simp only [List.length_map,Nat.sub_self,List.getElem_cons_zero] at hE
 obtain ⟨⟨pv,cv,hcs,hp,hc⟩,ht⟩:=hE
 have hn:=ht rfl
 rw [hcs] at hn
 obtain rfl:cv=.slice none 0 0:=by simpa using hn
 refine ⟨css.take fs.length,pv,?_,⟨by simp [hl],fun i hi hi'=>?_⟩,hp⟩
 ·rw [<- hcs]
  have:css.take fs.length++[css[fs.length]]=css:=by
   rw [List.take_append_getElem,List.take_of_length_le (by omega)]
  rw [this]
  have h3:=h2
  rw [show ((fs.map fun f=>(f,false))++[(f,true)]).length=(fs++[f]).length by simp] at h3
  exact h3
 ·rw [List.getElem_take]
  have h4:=h1.2 i (by simp;omega) (by omega)
  rw [List.getElem_append_left (by simpa using hi),List.getElem_map] at h4
  exact h4.1
theorem PmJ.open3 {B b:Nat} {O:Nat->Value} {pw:Option Addr} {cw:Nat} {ws:List Wd} {S:PS} {k:Nat} {w w8 w9:World} {an fn:List Bs} {v':Value} {f:Fu} {R:Nat->Prop} (h:PmJ B b O pw cw ws S an fn k w) (hin:S.inn ≠ 1) (hb:Below w.heap.size w w8) (hg:w8.grownBy w9 (O 3).ownBlock) (hm:Moved w8 (O 3) v')
  (hR:∀ i,R i->Fin' b O w8 i) (hgr:GR kFuX R b 74 w9 v' ((S.p.funcs.map fun f=>(f,false))++[(f,true)])) (hc:f.code=[]) (h1':an=anamesP S.p) (h2':fn=S.p.funcs.map Fu.nm++[f.nm]) :
  Pm B b (upd O 3 v') pw cw ws { S with p:={ S.p with funcs:=S.p.funcs++[f] },step:=3,inn:=1 } k (((w9.setCell ⟨b,3,none⟩ v').setCell ⟨b,12,none⟩ (.int .i64 3)).setCell ⟨b,11,none⟩ (.int .i64 1)):=by
 obtain ⟨h1,h2,h3,h4⟩:=h.grow (c:=3) hb hg hm (fun i hi=>(hgr.lt i hi).2)
 have h20:O 20=.slice none 0 0:=by
  obtain ⟨css,_,h⟩:=h.fu
  rcases h with ⟨e,_⟩ | ⟨_,e,_⟩
  ·exact absurd e hin
  ·exact e
 have hne:∀ i,v'.ownBlock=some i->i ≠ b:=fun i hi e=>by
  have:=h2.lt 3 i (by rw [upd_eq];exact hi);omega
 have hfu:FuR b (upd O 3 v') (w9.setCell ⟨b,3,none⟩ v') 1 (S.p.funcs++[f]):=by
  obtain ⟨cs0,pv,g1,g2,g3⟩:=hgr.unmark
  have hF:∀ i,R i->Fin' b (upd O 3 v') (w9.setCell ⟨b,3,none⟩ v') i/\(w9.setCell ⟨b,3,none⟩ v').heap[i]?=w9.heap[i]?:=fun i hi=>by
   have hj:=(hR i hi).moved hm hg.size
   exact ⟨hj.size (by simp only [World.size_setCell];exact Nat.le_refl _),heap_ot (by have:=hj.2.1;omega) _⟩
  refine ⟨cs0++[[.string ⟨f.nm.toArray⟩,pv,.slice none 0 0,.int .i64 f.pos.1,.int .i64 f.pos.2]],?_,.inl ⟨rfl,cs0,S.p.funcs,f,pv,rfl,by rw [upd_ne O v' (by decide),h20],g2.keep hF,g3.keep hF,?_⟩⟩
  ·rw [upd_eq];exact owns_keepG g1 fun j hj=>heap_ot (hne j hj) _
  ·rw [upd_ne O v' (by decide),h20,hc];exact GR.nil _ _ _ _ _
 have hps:PsR b (w9.setCell ⟨b,3,none⟩ v') (upd O 3 v') { S with p:={ S.p with funcs:=S.p.funcs++[f] },step:=3,inn:=1 }:=by
  refine ⟨h2,h.ch.stay h.ow h1 h3 (by decide),h.ar.stay h.ow h1 h3 (by decide),hfu,h.mn.stay h.ow h1 h3 (by decide),?_,?_,h.lb.stay h.ow h1 h3 (by decide),h.st.stay h.ow h1 h3 (by decide)⟩
  ·have:=h.an.stay h.ow h1 h3 (by decide);rw [h1'] at this;exact this
  ·have:=h.fn.stay h.ow h1 h3 (by decide);rw [h2'] at this;simpa using this
 have hbn:But (fun i=>i=b) (w9.setCell ⟨b,3,none⟩ v') (((w9.setCell ⟨b,3,none⟩ v').setCell ⟨b,12,none⟩ (.int .i64 3)).setCell ⟨b,11,none⟩ (.int .i64 1)):=((But.refl (fun i=>i=b) _).setC _ (.inl rfl)).setC _ (.inl rfl)
 have hbx:=((h.rd.box.bel hb).keep (hg.block b (Nat.lt_of_lt_of_le h.lt hb.size) fun e=>h.own 3 e.symm)).set 3 v'
 exact ⟨⟨(hbx.set 12 _).set 11 _,h4.keep fun i hi=>⟨hi,by rw [heap_ot (Nat.ne_of_lt hi),heap_ot (Nat.ne_of_lt hi)]⟩⟩,hps.but hbn,h.ge,h.le⟩
def func3 (S:PS) (f:Int × Int) (s:Bs):PE (List Bs)->PE PS
 | .error e => .error e
 | .ok l => .ok { S with p:={ S.p with funcs:=S.p.funcs++[⟨s,l,[],f⟩] },step:=3,inn:=1,labels:=[] }
def func2 (S:PS) (f:Int × Int):PE (Bs × List Wd)->PE PS
 | .error e => .error e
 | .ok (s,q)=>func3 S f s (paramsP f [] q)
theorem func_eq {S:PS} {f:Int × Int} {r:List Wd} (h:S.p.funcs.length<32):funcD S f r=func2 S f (freshP f (S.p.funcs.map Fu.nm) r):=by
 unfold funcD func2 func3;simp only [needM,decide_eq_true h,if_true,bind,Except.bind]
 cases freshP f (S.p.funcs.map Fu.nm) r with
 | error e=>rfl
 | ok p=>dsimp only;cases paramsP f [] p.2 <;> rfl
theorem fresh_one {f:Int × Int} {had:List Bs} {x:Wd} {r:List Wd}:freshP f had (x :: r)=match freshP f had [x] with | .error e => .error e | .ok p => .ok (p.1,r):=by
 unfold freshP nameP nextP
 simp only [bind,Except.bind,pure,Except.pure]
 cases needM (namedB x.1) (wpos x) 4 with
 | error e=>rfl
 | ok u =>
  dsimp only
  cases needM (!had.contains x.1) (wpos x) 8 <;> rfl
theorem params_long {f:Int × Int} {x:Wd} {r:List Wd} (l:List Bs) (h:¬ l.length<32):paramsP f l (x :: r)=.error (wpos x,5):=by
 rw [paramsP];simp only [needM,decide_eq_false h];rfl
theorem params_err {f:Int × Int} {x:Wd} {r:List Wd} {g:Flt} (l:List Bs) (h:l.length<32) (ho:freshP f l (x :: r)=.error g):paramsP f l (x :: r)=.error g:=by
 rw [fresh_one] at ho
 rw [paramsP];simp only [needM,decide_eq_true h,if_true,bind,Except.bind]
 cases he:freshP f l [x] with
 | error e=>rw [he] at ho;injection ho with ho;subst ho;rfl
 | ok p=>rw [he] at ho;cases ho
theorem params_ok {f:Int × Int} {x:Wd} {r q:List Wd} {s:Bs} (l:List Bs) (h:l.length<32) (ho:freshP f l (x :: r)=.ok (s,q)):paramsP f l (x :: r)=paramsP f (l++[s]) q/\q=r:=by
 rw [fresh_one] at ho
 rw [paramsP];simp only [needM,decide_eq_true h,if_true,bind,Except.bind]
 cases he:freshP f l [x] with
 | error e=>rw [he] at ho;cases ho
 | ok p=>rw [he] at ho;injection ho with ho;injection ho with h1 h2;subst h1 h2;exact ⟨rfl,rfl⟩
theorem fresh_pos {f:Int × Int} {ws:List Wd} {k k':Nat} {x:Wd} {s:Bs} {l:List Bs} (h:freshP f l (x :: ws.drop (k+1))=.ok (s,ws.drop k')) (hl:l.length<32) (hx:ws.drop k=x :: ws.drop (k+1)) (hk:k<=ws.length) (hk':k'<=ws.length):k'=k+1:=by
 have h2:=congrArg List.length (params_ok l hl h).2
 have h1:=congrArg List.length hx
 simp only [List.length_drop,List.length_cons] at h1 h2
 omega
theorem params_end {f:Int × Int} (l:List Bs):paramsP f l []=.ok l:=by rw [paramsP];rfl
theorem GR.strF {R R':Nat->Prop} {B e:Nat} {w w':World} {v:Value} {l:List Bs} (h:GR kStr R B e w v l) (ho:∀ j,v.ownBlock=some j->w'.heap[j]?=w.heap[j]?):GR kStr R' B e w' v l :=
 GR.str (GR.keep (R':=fun _=>False) (GR.str (R':=fun _=>False) h) (fun k hk=>hk.elim) ho)
theorem GR.slx {R:Nat->Prop} {B e x:Nat} {w:World} {v:Value} {l:List Bs} (h:GR kStr R B e w v l) (hl:l.length<=5000) (hne:v.ownBlock ≠ some x):SlG kStr (fun i=>i<w.heap.size/\i ≠ x) w v l :=
 (GR.sl (GR.str (R':=fun _=>False) h) (by omega)).weaken fun i hi=>by
  rcases hi with hi | hi
  ·exact hi.elim
  ·exact ⟨(h.lt i hi).2,fun e=>hne (e ▸ hi)⟩
open Go.RowKit
section
variable {Fe:Fence} {n:Nat} {P:Program} {ops:Array Oper} {Q:Exit->Act->World->Prop} {md:Region.Mode} {S:World->Prop}
theorem wpHJ_both (i j:Nat) {z:Nat} {oi oj:Oper} {fuel:Nat} {listed:Array Bool} {a:Act} {w:World} (hr:Region.ready md ops listed=[i,j]) (hi:ops[i]?=some oi) (hj:ops[j]?=some oj)
  (h:∀ K:Act->World->Prop,(∀ a' w',(i=z\/listed.getD z false=true\/S w')->wpHJ Fe n P md ops Q S z fuel (listed.setIfInBounds i true) a' w'->K a' w') ->
   if Region.wanted oi (yielded ops a.tmps) then oi.wpIn Fe n P a w K Q else (∀ f,oi.about P w a.eval=some f->Fe.fn f)/\K (a.put oi.dst undef) w)
  (h':∀ K:Act->World->Prop,(∀ a' w',(j=z\/listed.getD z false=true\/S w')->wpHJ Fe n P md ops Q S z fuel (listed.setIfInBounds j true) a' w'->K a' w') ->
   if Region.wanted oj (yielded ops a.tmps) then oj.wpIn Fe n P a w K Q else (∀ f,oj.about P w a.eval=some f->Fe.fn f)/\K (a.put oj.dst undef) w) :
  wpHJ Fe n P md ops Q S z (fuel+1) listed a w:=by
 refine ⟨fun h0=>(by rw [h0] at hr;cases hr),fun k hk=>?_⟩
 rw [hr] at hk
 simp only [List.mem_cons,List.not_mem_nil,or_false] at hk
 rcases hk with rfl | rfl
 ·unfold wpOpIn
  simp only [hi]
  exact h _ (fun a' w' h1 h2=>⟨h1,h2⟩)
 ·unfold wpOpIn
  simp only [hj]
  exact h' _ (fun a' w' h1 h2=>⟨h1,h2⟩)
end
end Go.Proofs.YtoofbgoeipijcaaGreatDoor
