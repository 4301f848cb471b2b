/-
 The law PolicyOrder.
-/
import Derived.Test.YtbijamcoibonkaaDoorASPoY
import Derived.Test.YtbijamcoibonkaaDoorASPoV
import Derived.Deep.DeepCutAuto
namespace Go.Proofs.YtbijamcoibonkaaDoor
set_option linter.unusedSimpArgs false
set_option linter.unusedVariables false
open Go.RowKit Go.Shelf
attribute [local go_sem] Oper.semAt_some
theorem heap_dr (w:World) (i:Nat):w.drew.heap[i]?=w.heap[i]?:=rfl
theorem size_dr (w:World):w.drew.heap.size=w.heap.size:=rfl
theorem few_w (p q:Po) (hq:fewPo p=q) (nl no nc ns:Nat) (h1:q.lv.length=nl) (h2:q.od.length=no) (h3:q.ch.length=nc) (h4:q.st.length=ns) (a b c d:Value) (w:World) (hp:PoV (·<w.heap.size) w a b c d p) :
  Calls Tryd.prog 6 #[.agg #[a,b,c,d,.bool p.sens,.int .i64 p.steps,.int .i64 p.paths,.int .i64 p.nodes,.int .i64 p.conf]] w fun e w'=>∃ qa xa qb xb qc xc qd xd,e = .returned (.agg #[.slice qa nl xa,.slice qb no xb,.slice qc nc xc,.slice qd ns xd,.bool q.sens,.int .i64 q.steps,.int .i64 q.paths,.int .i64 q.nodes,.int .i64 q.conf])∧PoG (w.heap.size+2) w' (.slice qa nl xa) (.slice qb no xb) (.slice qc nc xc) (.slice qd ns xd) q∧Below w.heap.size w w':=by
 subst hq h1 h2 h3 h4
 exact few_po p a b c d w hp
theorem copy_w (q:Po) (nl no nc ns:Nat) (h1:q.lv.length=nl) (h2:q.od.length=no) (h3:q.ch.length=nc) (h4:q.st.length=ns) (hl:LenPo q) (a b c d:Value) (w:World) (hp:PoV (·<w.heap.size) w a b c d q) :
  Calls Tryd.prog 8 #[.agg #[a,b,c,d,.bool q.sens,.int .i64 q.steps,.int .i64 q.paths,.int .i64 q.nodes,.int .i64 q.conf]] w fun e w'=>∃ ra ya rb yb rc yc rd yd,e = .returned (.agg #[.slice ra nl ya,.slice rb no yb,.slice rc nc yc,.slice rd ns yd,.bool q.sens,.int .i64 q.steps,.int .i64 q.paths,.int .i64 q.nodes,.int .i64 q.conf])∧PoG (w.heap.size+2) w' (.slice ra nl ya) (.slice rb no yb) (.slice rc nc yc) (.slice rd ns yd) q∧Below w.heap.size w w':=by
 subst h1 h2 h3 h4
 exact copypo_any q a b c d w hp hl
theorem check_w (q:Po) (k:Int) (hk:checkP q=k) (a b c d:Value) (w:World) (hp:PoV (·<w.heap.size) w a b c d q) (hs:PoS q) (hE:E28 w) :
  Calls Tryd.prog 7 #[.agg #[a,b,c,d,.bool q.sens,.int .i64 q.steps,.int .i64 q.paths,.int .i64 q.nodes,.int .i64 q.conf]] w fun e w'=>e = .returned (.int .i64 k)∧Below w.heap.size w w':=by
 subst hk
 exact check_po q a b c d w hp hs hE.po.bru
theorem rev_s {p:Po} (h:PoS p):PoS (revP p):=⟨h.lv,fun s hs=>h.ch s (List.mem_reverse.1 hs),fun s hs=>h.st s (List.mem_reverse.1 hs)⟩
theorem ne_tyA {α β:Type} {K:EK α} {K':EK β} {B e e':Nat} {w:World} {v v':Value} {l:List α} {l':List β} (h:GA K B e w v l) (h':GA K' B e' w v' l') (hne:e ≠ e'):∀ k,v.ownBlock=some k→v'.ownBlock ≠ some k:=by
 intro k hk hk'
 obtain ⟨_,_,_,h1⟩:=h.row
 obtain ⟨_,_,_,h2⟩:=h'.row
 rcases h1 with ⟨rfl,_⟩ | ⟨g,cap,cur,rfl,_,hg,_⟩
 ·cases hk
 rcases h2 with ⟨rfl,_⟩ | ⟨g',cap',cur',rfl,_,hg',_⟩
 ·cases hk'
 cases hk
 cases hk'
 rw [hg] at hg'
 injection hg' with e1
 injection e1 with _ e2
 exact hne e2
theorem few_s {p:Po} (h:PoS p):PoS (fewPo p):=⟨fun s hs=>h.lv s (List.mem_of_mem_take hs),fun s hs=>h.ch s (List.mem_of_mem_take hs),fun s hs=>h.st s (List.mem_of_mem_take hs)⟩
set_option maxRecDepth 100000 in
set_option maxHeartbeats 4000000 in
theorem policyOrder_any (p:Po) (a b c d:Value) (w:World) (hp:PoV (·<w.heap.size) w a b c d p) (hs:PoS p) (hE:E28 w) :
  Calls Tryd.prog 3 #[.agg (poL a b c d p).toArray] w fun e w'=>e = .returned (.bool true)∧Below w.heap.size w w':=by
 obtain ⟨pa,ca,rfl⟩:=hp.1.slc
 obtain ⟨pb,cb,rfl⟩:=hp.2.1.slc
 obtain ⟨pc,cc,rfl⟩:=hp.2.2.1.slc
 obtain ⟨pd,cd,rfl⟩:=hp.2.2.2.slc
 obtain ⟨q,hq⟩:∃ q,fewPo p=q:=⟨_,rfl⟩
 have hqs:=few_s hs
 have hql:=few_lenPo p
 rw [hq] at hqs hql
 obtain ⟨nl,hnl⟩:∃ n,q.lv.length=n:=⟨_,rfl⟩
 obtain ⟨no,hno⟩:∃ n,q.od.length=n:=⟨_,rfl⟩
 obtain ⟨nc,hnc⟩:∃ n,q.ch.length=n:=⟨_,rfl⟩
 obtain ⟨ns,hns⟩:∃ n,q.st.length=n:=⟨_,rfl⟩
 obtain ⟨ck,hck⟩:∃ k,checkP q=k:=⟨_,rfl⟩
 have HX0:=hid (show BxL 26 w.heap.size [.slice pa p.lv.length ca,.slice pb p.od.length cb,.slice pc p.ch.length cc,.slice pd p.st.length cd,.bool p.sens,.int .i64 p.steps,.int .i64 p.paths,.int .i64 p.nodes,.int .i64 p.conf] (w.alloc (.cells #[.slice pa p.lv.length ca,.slice pb p.od.length cb,.slice pc p.ch.length cc,.slice pd p.st.length cd,.bool p.sens,.int .i64 p.steps,.int .i64 p.paths,.int .i64 p.nodes,.int .i64 p.conf] 26)) from BxL.new _ _ _)
 have HB0:=hid (show Below w.heap.size w (w.alloc (.cells #[.slice pa p.lv.length ca,.slice pb p.od.length cb,.slice pc p.ch.length cc,.slice pd p.st.length cd,.bool p.sens,.int .i64 p.steps,.int .i64 p.paths,.int .i64 p.nodes,.int .i64 p.conf] 26)) from (Below.refl _ _).alloc (Nat.le_refl _) _)
 have HFW:=hid (fun W (hW:Below w.heap.size w W)=>few_w p q hq nl no nc ns hnl hno hnc hns (.slice pa p.lv.length ca) (.slice pb p.od.length cb) (.slice pc p.ch.length cc) (.slice pd p.st.length cd) W (hp.below hW))
 have HCK:=hid (fun (qa qb qc qd:Option Addr) (xa xb xc xd:Nat) W (hW:Below w.heap.size w W) (hv:PoV (·<W.heap.size) W (.slice qa nl xa) (.slice qb no xb) (.slice qc nc xc) (.slice qd ns xd) q)=>check_w q ck hck (.slice qa nl xa) (.slice qb no xb) (.slice qc nc xc) (.slice qd ns xd) W hv hqs (hE.keep hW))
 have HCP:=hid (fun (qa qb qc qd:Option Addr) (xa xb xc xd:Nat) W (hv:PoV (·<W.heap.size) W (.slice qa nl xa) (.slice qb no xb) (.slice qc nc xc) (.slice qd ns xd) q)=>copy_w q nl no nc ns hnl hno hnc hns hql (.slice qa nl xa) (.slice qb no xb) (.slice qc nc xc) (.slice qd ns xd) W hv)
 have HQL:=hid hql;have HQS:=hid hqs;have HE:=hid hE;have HQ:=hid hq
 have HNL:=hid hnl;have HNO:=hid hno;have HLN2:=hid hnc;have HLN3:=hid hns;have HCKV:=hid hck
 have HNLE:=hid (show nl≤34 from by rw [← hnl,← hq];show (p.lv.take 34).length≤_;rw [List.length_take];omega)
 have HNN2:=hid (show nc≤1000000000000 from by rw [← hnc];exact hql.2.2.1)
 have HNN3:=hid (show ns≤1000000000000 from by rw [← hns];exact hql.2.2.2)
 clear hp hs hE hq hqs hql hnl hno hnc hns hck
 go_enter Tryd.func3,Tryd.ntmps3
 go_upto_region 2 with (go_at_call 6;(with_reducible refine (HFW.out _ HB0.out).mono ?_);rintro e w1 ⟨qa,xa,qb,xb,qc,xc,qd,xd,rfl,hg,hb⟩;have HG1:=hid hg;have HB1:=hid (HB0.out.trans (hb.mono HB0.out.size));have HX1:=hid (HX0.out.bel hb);clear hg hb;have n0:w1.cell? ⟨w.heap.size,0,none⟩=some (.slice pa p.lv.length ca):=HX1.out.at 0 rfl;have n1:w1.cell? ⟨w.heap.size,1,none⟩=some (.slice pb p.od.length cb):=HX1.out.at 1 rfl;have n2:w1.cell? ⟨w.heap.size,2,none⟩=some (.slice pc p.ch.length cc):=HX1.out.at 2 rfl;have n3:w1.cell? ⟨w.heap.size,3,none⟩=some (.slice pd p.st.length cd):=HX1.out.at 3 rfl;have n4:w1.cell? ⟨w.heap.size,4,none⟩=some (.bool p.sens):=HX1.out.at 4 rfl;have n5:w1.cell? ⟨w.heap.size,5,none⟩=some (.int .i64 p.steps):=HX1.out.at 5 rfl;have n6:w1.cell? ⟨w.heap.size,6,none⟩=some (.int .i64 p.paths):=HX1.out.at 6 rfl;have n7:w1.cell? ⟨w.heap.size,7,none⟩=some (.int .i64 p.nodes):=HX1.out.at 7 rfl;have n8:w1.cell? ⟨w.heap.size,8,none⟩=some (.int .i64 p.conf):=HX1.out.at 8 rfl;have f0:w1.frozen? ⟨w.heap.size,0,none⟩=false:=HX1.out.fr 0;have f1:w1.frozen? ⟨w.heap.size,1,none⟩=false:=HX1.out.fr 1;have f2:w1.frozen? ⟨w.heap.size,2,none⟩=false:=HX1.out.fr 2;have f3:w1.frozen? ⟨w.heap.size,3,none⟩=false:=HX1.out.fr 3;have f4:w1.frozen? ⟨w.heap.size,4,none⟩=false:=HX1.out.fr 4;have f5:w1.frozen? ⟨w.heap.size,5,none⟩=false:=HX1.out.fr 5;have f6:w1.frozen? ⟨w.heap.size,6,none⟩=false:=HX1.out.fr 6;have f7:w1.frozen? ⟨w.heap.size,7,none⟩=false:=HX1.out.fr 7;have f8:w1.frozen? ⟨w.heap.size,8,none⟩=false:=HX1.out.fr 8;skip)
 clear n0 f0 n1 f1 n2 f2 n3 f3 n4 f4 n5 f5 n6 f6 n7 f7 n8 f8
 obtain ⟨w2,hw2⟩:∃ W,(((((((((w1).setCell ⟨w.heap.size,0,none⟩ (.slice qa nl xa)).setCell ⟨w.heap.size,1,none⟩ (.slice qb no xb)).setCell ⟨w.heap.size,2,none⟩ (.slice qc nc xc)).setCell ⟨w.heap.size,3,none⟩ (.slice qd ns xd)).setCell ⟨w.heap.size,4,none⟩ (.bool q.sens)).setCell ⟨w.heap.size,5,none⟩ (.int .i64 q.steps)).setCell ⟨w.heap.size,6,none⟩ (.int .i64 q.paths)).setCell ⟨w.heap.size,7,none⟩ (.int .i64 q.nodes)).setCell ⟨w.heap.size,8,none⟩ (.int .i64 q.conf)=W:=⟨_,rfl⟩
 have hx2:BxL 26 w.heap.size [.slice qa nl xa,.slice qb no xb,.slice qc nc xc,.slice qd ns xd,.bool q.sens,.int .i64 q.steps,.int .i64 q.paths,.int .i64 q.nodes,.int .i64 q.conf] w2:=by rw [← hw2];exact (((((((((HX1.out.set 0 (.slice qa nl xa)).set 1 (.slice qb no xb)).set 2 (.slice qc nc xc)).set 3 (.slice qd ns xd)).set 4 (.bool q.sens)).set 5 (.int .i64 q.steps)).set 6 (.int .i64 q.paths)).set 7 (.int .i64 q.nodes)).set 8 (.int .i64 q.conf))
 have hk2:∀ i,i ≠ w.heap.size→w2.heap[i]?=w1.heap[i]?:=fun i hi=>by rw [← hw2,heap_ot hi,heap_ot hi,heap_ot hi,heap_ot hi,heap_ot hi,heap_ot hi,heap_ot hi,heap_ot hi,heap_ot hi]
 have HB2:=hid (show Below w.heap.size w w2 from by rw [← hw2];exact (((((((((HB1.out.setCell (p:=⟨w.heap.size,0,none⟩) (Nat.le_refl _) _).setCell (p:=⟨w.heap.size,1,none⟩) (Nat.le_refl _) _).setCell (p:=⟨w.heap.size,2,none⟩) (Nat.le_refl _) _).setCell (p:=⟨w.heap.size,3,none⟩) (Nat.le_refl _) _).setCell (p:=⟨w.heap.size,4,none⟩) (Nat.le_refl _) _).setCell (p:=⟨w.heap.size,5,none⟩) (Nat.le_refl _) _).setCell (p:=⟨w.heap.size,6,none⟩) (Nat.le_refl _) _).setCell (p:=⟨w.heap.size,7,none⟩) (Nat.le_refl _) _).setCell (p:=⟨w.heap.size,8,none⟩) (Nat.le_refl _) _))
 have HSZ2:=hid (show w2.heap.size=w1.heap.size from by rw [← hw2];simp only [World.size_setCell])
 have HG2:=hid (show PoG (w.heap.size+1) w2 (.slice qa nl xa) (.slice qb no xb) (.slice qc nc xc) (.slice qd ns xd) q from by
  have hs0:(w.alloc (.cells #[.slice pa p.lv.length ca,.slice pb p.od.length cb,.slice pc p.ch.length cc,.slice pd p.st.length cd,.bool p.sens,.int .i64 p.steps,.int .i64 p.paths,.int .i64 p.nodes,.int .i64 p.conf] 26)).heap.size=w.heap.size+1:=World.size_alloc _ _
  have h1:=HG1.out
  rw [hs0] at h1
  have h2:=h1.own (w':=w2) fun k hk _=>hk2 k (by omega)
  exact ⟨h2.lv.base (by omega),h2.od.base (by omega),h2.ch.base (by omega),h2.st.base (by omega),h2.ne⟩)
 have HV2:=hid ((HG2.out.pov HQL.out).weaken fun k hk=>hk.2)
 rw [hw2]
 have HX2:=hid hx2
 have n0:w2.cell? ⟨w.heap.size,0,none⟩=some (.slice qa nl xa):=hx2.at 0 rfl
 have n1:w2.cell? ⟨w.heap.size,1,none⟩=some (.slice qb no xb):=hx2.at 1 rfl
 have n2:w2.cell? ⟨w.heap.size,2,none⟩=some (.slice qc nc xc):=hx2.at 2 rfl
 have n3:w2.cell? ⟨w.heap.size,3,none⟩=some (.slice qd ns xd):=hx2.at 3 rfl
 have n4:w2.cell? ⟨w.heap.size,4,none⟩=some (.bool q.sens):=hx2.at 4 rfl
 have n5:w2.cell? ⟨w.heap.size,5,none⟩=some (.int .i64 q.steps):=hx2.at 5 rfl
 have n6:w2.cell? ⟨w.heap.size,6,none⟩=some (.int .i64 q.paths):=hx2.at 6 rfl
 have n7:w2.cell? ⟨w.heap.size,7,none⟩=some (.int .i64 q.nodes):=hx2.at 7 rfl
 have n8:w2.cell? ⟨w.heap.size,8,none⟩=some (.int .i64 q.conf):=hx2.at 8 rfl
 clear hw2 hx2 hk2
 go_upto_region 3 with (go_at_call 7;(with_reducible refine (HCK.out _ _ _ _ _ _ _ _ _ HB2.out HV2.out).mono ?_);rintro e w3 ⟨rfl,hb⟩;have HB3:=hid (HB2.out.trans (hb.mono HB2.out.size));have HX3:=hid (HX2.out.bel hb);have HV3:=hid (HV2.out.below hb);have HG3:=hid (HG2.out.below hb);have HS3:=hid hb.size;clear hb)
 clear n0 n1 n2 n3 n4 n5 n6 n7 n8
 have n0:w3.cell? ⟨w.heap.size,0,none⟩=some (.slice qa nl xa):=HX3.out.at 0 rfl
 have n1:w3.cell? ⟨w.heap.size,1,none⟩=some (.slice qb no xb):=HX3.out.at 1 rfl
 have n2:w3.cell? ⟨w.heap.size,2,none⟩=some (.slice qc nc xc):=HX3.out.at 2 rfl
 have n3:w3.cell? ⟨w.heap.size,3,none⟩=some (.slice qd ns xd):=HX3.out.at 3 rfl
 have n4:w3.cell? ⟨w.heap.size,4,none⟩=some (.bool q.sens):=HX3.out.at 4 rfl
 have n5:w3.cell? ⟨w.heap.size,5,none⟩=some (.int .i64 q.steps):=HX3.out.at 5 rfl
 have n6:w3.cell? ⟨w.heap.size,6,none⟩=some (.int .i64 q.paths):=HX3.out.at 6 rfl
 have n7:w3.cell? ⟨w.heap.size,7,none⟩=some (.int .i64 q.nodes):=HX3.out.at 7 rfl
 have n8:w3.cell? ⟨w.heap.size,8,none⟩=some (.int .i64 q.conf):=HX3.out.at 8 rfl
 go_upto_region 4 with (go_at_call 8;(with_reducible refine (HCP.out _ _ _ _ _ _ _ _ _ HV3.out).mono ?_);rintro e w4 ⟨ra,ya,rb,yb,rc,yc,rd,yd,rfl,hg,hb⟩;have HGR4:=hid hg;have HB4:=hid (HB3.out.trans (hb.mono HB3.out.size));have HX4:=hid (HX3.out.bel hb);have HG4:=hid (HG3.out.below hb);have HS4:=hid hb.size;have HK34:=hid (fun k (hk:k<w3.heap.size)=>hb.block k hk);clear hg hb)
 clear n0 n1 n2 n3 n4 n5 n6 n7 n8
 obtain ⟨w5,hw5⟩:∃ W,w4.alloc (.cells #[.slice ra nl ya,.slice rb no yb,.slice rc nc yc,.slice rd ns yd,.bool q.sens,.int .i64 q.steps,.int .i64 q.paths,.int .i64 q.nodes,.int .i64 q.conf] 26)=W:=⟨_,rfl⟩
 have hb5:Below w4.heap.size w4 w5:=by rw [← hw5];exact (Below.refl _ _).alloc (Nat.le_refl _) _
 have HXw5:=hid (show BxL 26 w4.heap.size [.slice ra nl ya,.slice rb no yb,.slice rc nc yc,.slice rd ns yd,.bool q.sens,.int .i64 q.steps,.int .i64 q.paths,.int .i64 q.nodes,.int .i64 q.conf] w5 from by rw [← hw5];exact BxL.new _ _ _)
 have HS5:=hid (show w5.heap.size=w4.heap.size+1 from by rw [← hw5,World.size_alloc])
 have HP5:=hid (HX4.out.bel hb5)
 have HG5:=hid (HG4.out.below hb5)
 have HGR5:=hid (show PoG (w.heap.size+1) w5 (.slice ra nl ya) (.slice rb no yb) (.slice rc nc yc) (.slice rd ns yd) q from by
  have h2:=HGR4.out.below hb5
  have:=HB3.out.size
  exact ⟨h2.lv.base (by omega),h2.od.base (by omega),h2.ch.base (by omega),h2.st.base (by omega),h2.ne⟩)
 have HLO5:=hid (show ∀ k,(.slice rc nc yc:Value).ownBlock=some k→k<w4.heap.size from fun k hk=>(HGR4.out.ch.lt k hk).2)
 have HLO6:=hid (show ∀ k,(.slice rd ns yd:Value).ownBlock=some k→k<w4.heap.size from fun k hk=>(HGR4.out.st.lt k hk).2)
 have HOD2:=hid (show (.slice rc nc yc:Value).ownBlock ≠ some w4.heap.size from fun e=>by have:=HLO5.out _ e;omega)
 have HOD3:=hid (show (.slice rd ns yd:Value).ownBlock ≠ some w4.heap.size from fun e=>by have:=HLO6.out _ e;omega)
 have HLW2:=hid (show ∀ k,(.slice rc nc yc:Value).ownBlock=some k→w3.heap.size≤k from fun k hk=>by have:=(HGR4.out.ch.lt k hk).1;omega)
 have HLW3:=hid (show ∀ k,(.slice rd ns yd:Value).ownBlock=some k→w3.heap.size≤k from fun k hk=>by have:=(HGR4.out.st.lt k hk).1;omega)
 have HOB2:=hid (show (.slice rc nc yc:Value).ownBlock ≠ some w.heap.size from fun e=>by have:=(HGR5.out.ch.lt _ e).1;omega)
 have HOB3:=hid (show (.slice rd ns yd:Value).ownBlock ≠ some w.heap.size from fun e=>by have:=(HGR5.out.st.lt _ e).1;omega)
 have HK35:=hid (show ∀ k,k<w3.heap.size→w5.heap[k]?=w3.heap[k]? from fun k hk=>by rw [hb5.block k (by have:=HS4.out;omega)];exact HK34.out k hk)
 have HBw5:=hid (HB4.out.trans (hb5.mono HB4.out.size))
 rw [hw5]
 clear hw5 hb5
 go_wp2_with fail
 go_loopw [5] (fun iv wr=>∃ (k:Nat) (T:List (Bs × Int)),k≤nc / 2∧iv = .int .i64 (k:Int)∧Swp q.ch T k∧GA kBind (w.heap.size+1) 31 wr (.slice rc nc yc) T∧(∀ i,(.slice rc nc yc:Value).ownBlock ≠ some i→wr.heap[i]?=w5.heap[i]?)∧wr.heap.size=w5.heap.size∧Below w.heap.size w wr) (fun iv _=>nc - (intOf iv).toNat)
 case atStart=>exact ⟨0,q.ch,Nat.zero_le _,rfl,Swp.zero _,HGR5.out.ch,fun _ _=>rfl,rfl,HBw5.out⟩
 case round =>
  obtain ⟨k,T,hk,rfl,hsw,hga,hke,hsz,hbr⟩:=hrel
  have hD:wr.cell? ⟨w4.heap.size,2,none⟩=some (.slice rc nc yc):=BxL.at (HXw5.out.keep (hke _ HOD2.out)) 2 rfl
  have hH2:Int.tdiv (nc:Int) 2=((nc / 2:Nat):Int):=by rw [Int.tdiv_eq_ediv_of_nonneg (by omega)];simp
  obtain ⟨hf,hhf⟩:∃ h,nc / 2=h:=⟨_,rfl⟩
  rw [hhf] at hk hH2
  have hnn:=HNN2.out
  have hH3:IntKind.i64.wrap (hf:Int)=(hf:Int):=IntWalk.i64_in _ (by omega)
  by_cases hlt:k<hf
  ·have htl:T.length=nc:=hsw.1.trans HLN2.out
   obtain ⟨g,hp,hgB,hgs,hcap,hat,hfr,hput⟩:=hga.bindAt htl.symm (by omega)
   subst hp
   obtain ⟨j,hj⟩:∃ j,nc - 1 - k=j:=⟨_,rfl⟩
   have hkj:k<j:=by omega
   have hkn:k<nc:=by omega
   have hjn:j<nc:=by omega
   obtain ⟨x,hx⟩:∃ x,T[k]?=some x:=⟨T[k]'(by omega),List.getElem?_eq_getElem _⟩
   obtain ⟨y,hy⟩:∃ y,T[j]?=some y:=⟨T[j]'(by omega),List.getElem?_eq_getElem _⟩
   obtain ⟨c0,c1⟩:=hat k x hx
   obtain ⟨c2,c3⟩:=hat j y hy
   have d0:wr.drew.cell? ⟨g,k*2,none⟩=some (.string ⟨x.1.toArray⟩):=c0
   have d1:wr.drew.cell? ⟨g,k*2+1,none⟩=some (.int .i64 x.2):=c1
   have d2:wr.drew.cell? ⟨g,j*2,none⟩=some (.string ⟨y.1.toArray⟩):=c2
   have d3:wr.drew.cell? ⟨g,j*2+1,none⟩=some (.int .i64 y.2):=c3
   have fr0:∀ i,wr.drew.frozen? ⟨g,i,none⟩=false:=hfr
   have fr1:∀ i,wr.frozen? ⟨g,i,none⟩=false:=hfr
   obtain ⟨n1,hn1⟩:∃ n,nc - 1=n:=⟨_,rfl⟩
   have hw1:IntKind.i64.wrap ((nc:Int) - 1)=(n1:Int):=by rw [IntWalk.i64_in _ (by omega)];omega
   have hw2:IntKind.i64.wrap ((n1:Int) - (k:Int))=(j:Int):=by rw [IntWalk.i64_in _ (by omega)];omega
   have hwg:w.heap.size≤g:=by omega
   have hdg:w4.heap.size ≠ g:=fun e=>HOD2.out (by rw [e];rfl)
   have HG6:=hid (fun w6 (h:((wr.setCell ⟨g,k*2,none⟩ (.string ⟨y.1.toArray⟩)).setCell ⟨g,k*2+1,none⟩ (.int .i64 y.2)).drew=w6)=>show GA kBind (w.heap.size+1) 31 w6 (.slice (some ⟨g,0,none⟩) nc yc) (T.set k y) from h ▸ (hput k y hkn).own kB fun _ _=>rfl)
   have HD6:=hid (fun w6 (h:((wr.setCell ⟨g,k*2,none⟩ (.string ⟨y.1.toArray⟩)).setCell ⟨g,k*2+1,none⟩ (.int .i64 y.2)).drew=w6)=>show w6.cell? ⟨w4.heap.size,2,none⟩=some (.slice (some ⟨g,0,none⟩) nc yc) from by
    have h9:BxL 26 w4.heap.size [.slice ra nl ya,.slice rb no yb,.slice (some ⟨g,0,none⟩) nc yc,.slice rd ns yd,.bool q.sens,.int .i64 q.steps,.int .i64 q.paths,.int .i64 q.nodes,.int .i64 q.conf] w6:=HXw5.out.keep (by rw [← h,heap_dr,heap_ot hdg,heap_ot hdg];exact hke _ HOD2.out)
    exact h9.at 2 rfl)
   have HC6:=hid (fun w6 (h:((wr.setCell ⟨g,k*2,none⟩ (.string ⟨y.1.toArray⟩)).setCell ⟨g,k*2+1,none⟩ (.int .i64 y.2)).drew=w6)=>show w6.cell? ⟨g,j*2,none⟩=some (.string ⟨y.1.toArray⟩)∧w6.cell? ⟨g,j*2+1,none⟩=some (.int .i64 y.2)∧w6.frozen? ⟨g,j*2,none⟩=false∧w6.frozen? ⟨g,j*2+1,none⟩=false from by
    obtain ⟨g2,e,_,_,_,hat6,hfr6,_⟩:=(HG6.out w6 h).bindAt (by rw [List.length_set];omega) (by omega)
    cases e
    have hyj:(T.set k y)[j]?=some y:=by rw [List.getElem?_set_ne (by omega)];exact hy
    exact ⟨(hat6 j y hyj).1,(hat6 j y hyj).2,hfr6 _,hfr6 _⟩)
   have HD7:=hid (fun w6 w7 (h:((wr.setCell ⟨g,k*2,none⟩ (.string ⟨y.1.toArray⟩)).setCell ⟨g,k*2+1,none⟩ (.int .i64 y.2)).drew=w6) (h7:(w6.setCell ⟨g,j*2,none⟩ (.string ⟨x.1.toArray⟩)).setCell ⟨g,j*2+1,none⟩ (.int .i64 x.2)=w7)=>show w7.cell? ⟨w4.heap.size,2,none⟩=some (.slice (some ⟨g,0,none⟩) nc yc) from by
    have h9:BxL 26 w4.heap.size [.slice ra nl ya,.slice rb no yb,.slice (some ⟨g,0,none⟩) nc yc,.slice rd ns yd,.bool q.sens,.int .i64 q.steps,.int .i64 q.paths,.int .i64 q.nodes,.int .i64 q.conf] w7:=HXw5.out.keep (by rw [← h7,heap_ot hdg,heap_ot hdg,← h,heap_dr,heap_ot hdg,heap_ot hdg];exact hke _ HOD2.out)
    exact h9.at 2 rfl)
   have hk1:k+1≤nc / 2:=by omega
   have HREL:=hid (fun w6 w7 (h:((wr.setCell ⟨g,k*2,none⟩ (.string ⟨y.1.toArray⟩)).setCell ⟨g,k*2+1,none⟩ (.int .i64 y.2)).drew=w6) (h7:(w6.setCell ⟨g,j*2,none⟩ (.string ⟨x.1.toArray⟩)).setCell ⟨g,j*2+1,none⟩ (.int .i64 x.2)=w7)=>show ∃ (k':Nat) (T:List (Bs × Int)),k'≤nc / 2∧Value.int .i64 ((k:Int)+1) = .int .i64 (k':Int)∧Swp q.ch T k'∧GA kBind (w.heap.size+1) 31 w7 (.slice (some ⟨g,0,none⟩) nc yc) T∧(∀ i,(.slice (some ⟨g,0,none⟩) nc yc:Value).ownBlock ≠ some i→w7.heap[i]?=w5.heap[i]?)∧w7.heap.size=w5.heap.size∧Below w.heap.size w w7 from by
    have hsn:=hsw.next (by rw [HLN2.out];omega) hx (by rw [HLN2.out,hj];exact hy)
    rw [HLN2.out,hj] at hsn
    refine ⟨k+1,_,hk1,rfl,hsn,?_,fun i hi=>?_,?_,?_⟩
    ·obtain ⟨g2,e,_,_,_,_,_,hput6⟩:=(HG6.out w6 h).bindAt (by rw [List.length_set];omega) (by omega)
     cases e
     exact h7 ▸ hput6 j x hjn
    ·have hig:i ≠ g:=fun e=>hi (by rw [e];rfl)
     rw [← h7,heap_ot hig,heap_ot hig,← h,heap_dr,heap_ot hig,heap_ot hig]
     exact hke i hi
    ·rw [← h7,World.size_setCell,World.size_setCell,← h,size_dr,World.size_setCell,World.size_setCell]
     exact hsz
    ·rw [← h7,← h]
     exact (((hbr.setCell (p:=⟨g,k*2,none⟩) hwg _).setCell (p:=⟨g,k*2+1,none⟩) hwg _).drew.setCell (p:=⟨g,j*2,none⟩) hwg _).setCell (p:=⟨g,j*2+1,none⟩) hwg _)
   have HMEA:=hid (show nc - (intOf (.int .i64 ((k:Int)+1))).toNat<nc - (intOf (.int .i64 (k:Int))).toNat from by show nc - ((k:Int)+1).toNat<nc - (k:Int).toNat;omega)
   clear hga hke hsz hbr hsw hput hat hfr hcap hk hhf htl hx hy hj hn1 hk1 hdg HG6
   go_upto_region 7 with fail
   have hS:(fun W=>W.cell? ⟨w4.heap.size,2,none⟩=some (.slice (some ⟨g,0,none⟩) nc yc)) wr.drew:=hD
   have hFa:=fT
   refine rgN (fun W=>W.cell? ⟨w4.heap.size,2,none⟩=some (.slice (some ⟨g,0,none⟩) nc yc)) 30 (by kernel_rfl) ?_
   simp only [List.size_toArray,List.length_cons,List.length_nil,Nat.reduceAdd]
   (refine wpHJ_nx (v:=?_) 30 rfl rfl (by kernel_rfl) nE hS ?_ ?_;rotate_left;(focus refine Or.inl ⟨by rfl,?_⟩;rintro w' s0;go_simp;try rfl);simp only [Act.put,actP,actQ])
   (refine wpHJ_nx (v:=?_) 30 rfl rfl (by kernel_rfl) nE hS ?_ ?_;rotate_left;(focus refine Or.inl ⟨by rfl,?_⟩;rintro w' s0;go_simp;try rfl);simp only [Act.put,actP,actQ])
   (refine wpHJ_nx (v:=?_) 30 rfl rfl (by kernel_rfl) nE hS ?_ ?_;rotate_left;(focus refine Or.inl ⟨by rfl,?_⟩;rintro w' s0;go_simp;try rfl);simp only [Act.put,actP,actQ])
   (refine wpHJ_nx (v:=?_) 30 rfl rfl (by kernel_rfl) nE hS ?_ ?_;rotate_left;(focus refine Or.inl ⟨by rfl,?_⟩;rintro w' s0;go_simp;try rfl);simp only [Act.put,actP,actQ])
   (refine wpHJ_nx (v:=?_) 30 rfl rfl (by kernel_rfl) nE hS ?_ ?_;rotate_left;(focus refine Or.inl ⟨by rfl,?_⟩;rintro w' s0;go_simp;try rfl);simp only [Act.put,actP,actQ])
   (refine wpHJ_nx (v:=?_) 30 rfl rfl (by kernel_rfl) nE hS ?_ ?_;rotate_left;(focus refine Or.inl ⟨by rfl,?_⟩;rintro w' s0;go_simp;try rfl);simp only [Act.put,actP,actQ])
   (refine wpHJ_nx (v:=?_) 30 rfl rfl (by kernel_rfl) nE hS ?_ ?_;rotate_left;(focus refine Or.inl ⟨by rfl,?_⟩;rintro w' s0;go_simp;try rfl);simp only [Act.put,actP,actQ])
   (refine wpHJ_nx (v:=?_) 30 rfl rfl (by kernel_rfl) nE hS ?_ ?_;rotate_left;(focus refine Or.inl ⟨by rfl,?_⟩;rintro w' s0;go_simp;try rfl);simp only [Act.put,actP,actQ])
   (refine wpHJ_nx (v:=?_) 30 rfl rfl (by kernel_rfl) nE hS ?_ ?_;rotate_left;(focus refine Or.inl ⟨by rfl,?_⟩;rintro w' s0;go_simp;try rfl);simp only [Act.put,actP,actQ])
   (refine wpHJ_nx (v:=?_) 30 rfl rfl (by kernel_rfl) nE hS ?_ ?_;rotate_left;(focus refine Or.inl ⟨by rfl,?_⟩;rintro w' s0;go_simp;try rfl);simp only [Act.put,actP,actQ])
   (refine wpHJ_nx (v:=?_) 30 rfl rfl (by kernel_rfl) nE hS ?_ ?_;rotate_left;(focus refine Or.inl ⟨by rfl,?_⟩;rintro w' s0;go_simp;try rfl);simp only [Act.put,actP,actQ])
   (refine wpHJ_nx (v:=?_) 30 rfl rfl (by kernel_rfl) nE hS ?_ ?_;rotate_left;(focus refine Or.inl ⟨by rfl,?_⟩;rintro w' s0;go_simp;try rfl);simp only [Act.put,actP,actQ])
   (refine wpHJ_nx (v:=?_) 30 rfl rfl (by kernel_rfl) nE hS ?_ ?_;rotate_left;(focus refine Or.inl ⟨by rfl,?_⟩;rintro w' s0;go_simp;try rfl);simp only [Act.put,actP,actQ])
   (refine wpHJ_nx (v:=?_) 30 rfl rfl (by kernel_rfl) nE hS ?_ ?_;rotate_left;(focus refine Or.inl ⟨by rfl,?_⟩;rintro w' s0;go_simp;try rfl);simp only [Act.put,actP,actQ])
   (refine wpHJ_nx (v:=?_) 30 rfl rfl (by kernel_rfl) nE hS ?_ ?_;rotate_left;(focus refine Or.inl ⟨by rfl,?_⟩;rintro w' s0;go_simp;try rfl);simp only [Act.put,actP,actQ])
   (refine wpHJ_nx (v:=?_) 30 rfl rfl (by kernel_rfl) nE hS ?_ ?_;rotate_left;(focus refine Or.inl ⟨by rfl,?_⟩;rintro w' s0;go_simp;try rfl);simp only [Act.put,actP,actQ])
   (refine wpHJ_nx (v:=?_) 30 rfl rfl (by kernel_rfl) nE hS ?_ ?_;rotate_left;(focus refine Or.inl ⟨by rfl,?_⟩;rintro w' s0;go_simp;try rfl);simp only [Act.put,actP,actQ])
   (refine wpHJ_nx (v:=?_) 30 rfl rfl (by kernel_rfl) nE hS ?_ ?_;rotate_left;(focus refine Or.inl ⟨by rfl,?_⟩;rintro w' s0;go_simp;try rfl);simp only [Act.put,actP,actQ])
   (refine wpHJ_nx (v:=?_) 30 rfl rfl (by kernel_rfl) nE hS ?_ ?_;rotate_left;(focus refine Or.inl ⟨by rfl,?_⟩;rintro w' s0;go_simp;try rfl);simp only [Act.put,actP,actQ])
   (refine wpHJ_nx (v:=?_) 30 rfl rfl (by kernel_rfl) nE hS ?_ ?_;rotate_left;(focus refine Or.inl ⟨by rfl,?_⟩;rintro w' s0;go_simp;try rfl);simp only [Act.put,actP,actQ])
   (refine wpHJ_nx (v:=?_) 31 rfl rfl (by kernel_rfl) nE hS ?_ ?_;rotate_left;(focus refine Or.inl ⟨by rfl,?_⟩;rintro w' s0;go_simp;try rfl);simp only [Act.put,actP,actQ])
   (refine wpHJ_nx (v:=?_) 31 rfl rfl (by kernel_rfl) nE hS ?_ ?_;rotate_left;(focus refine Or.inl ⟨by rfl,?_⟩;rintro w' s0;go_simp;try rfl);simp only [Act.put,actP,actQ])
   (refine wpHJ_nx (v:=?_) 31 rfl rfl (by kernel_rfl) nE hS ?_ ?_;rotate_left;(focus refine Or.inl ⟨by rfl,?_⟩;rintro w' s0;go_simp;try rfl);simp only [Act.put,actP,actQ])
   (refine wpHJ_nx (v:=?_) 31 rfl rfl (by kernel_rfl) nE hS ?_ ?_;rotate_left;(focus refine Or.inl ⟨by rfl,?_⟩;rintro w' s0;go_simp;try rfl);simp only [Act.put,actP,actQ])
   refine wpHJ_both 20 25 (by kernel_rfl) rfl rfl (fun K hK=>?_) (fun K hK=>?_)
   ·go_simp
    refine hK _ _ (.inr (.inr hS)) ?_
    clear hK K
    refine wpHJ_only 25 (by kernel_rfl) rfl (fun K hK=>?_)
    go_simp
    refine hK _ _ (.inr (.inr hS)) ?_
    clear hK K
    (refine wpHJ_nx (v:=?_) 30 rfl rfl (by kernel_rfl) nE hS ?_ ?_;rotate_left;(focus refine Or.inl ⟨by rfl,?_⟩;rintro w' s0;go_simp;try rfl);simp only [Act.put,actP,actQ])
    refine wpHJ_only 27 (by kernel_rfl) rfl (fun K hK=>?_)
    go_simp
    obtain ⟨w6,hw6⟩:∃ W,((wr.setCell ⟨g,k*2,none⟩ (.string ⟨y.1.toArray⟩)).setCell ⟨g,k*2+1,none⟩ (.int .i64 y.2)).drew=W:=⟨_,rfl⟩
    rw [hw6]
    have HW6:=hid hw6
    have hD6:w6.cell? ⟨w4.heap.size,2,none⟩=some (.slice (some ⟨g,0,none⟩) nc yc):=HD6.out w6 hw6
    obtain ⟨ea,eb,ec,ed⟩:=HC6.out w6 hw6
    clear hw6 c0 c1 c2 c3 d0 d1 d2 d3 fr0 fr1
    refine hK _ _ (.inr (.inr hD6)) ?_
    clear hK K
    (refine wpHJ_nx (v:=?_) 30 rfl rfl (by kernel_rfl) nE hD6 ?_ ?_;rotate_left;(focus refine Or.inl ⟨by rfl,?_⟩;rintro w' s0;go_simp;try rfl);simp only [Act.put,actP,actQ])
    refine wpHJ_only 29 (by kernel_rfl) rfl (fun K hK=>?_)
    go_simp
    obtain ⟨w7,hw7⟩:∃ W,(w6.setCell ⟨g,j*2,none⟩ (.string ⟨x.1.toArray⟩)).setCell ⟨g,j*2+1,none⟩ (.int .i64 x.2)=W:=⟨_,rfl⟩
    rw [hw7]
    have HW7:=hid hw7
    have hD7:w7.cell? ⟨w4.heap.size,2,none⟩=some (.slice (some ⟨g,0,none⟩) nc yc):=HD7.out w6 w7 HW6.out hw7
    clear hw7
    refine hK _ _ (.inr (.inr hD7)) ?_
    clear hK K
    refine wpHJ_done (by kernel_rfl) ?_ _
    simp only [onlyN,Exit.then]
    clear hFa
    go_wp2_with fail
    go_roundw
    case rel=>exact HREL.out w6 w7 HW6.out HW7.out
    case measure=>exact HMEA.out
   ·go_simp
    refine hK _ _ (.inr (.inr hS)) ?_
    clear hK K
    refine wpHJ_only 20 (by kernel_rfl) rfl (fun K hK=>?_)
    go_simp
    refine hK _ _ (.inr (.inr hS)) ?_
    clear hK K
    (refine wpHJ_nx (v:=?_) 30 rfl rfl (by kernel_rfl) nE hS ?_ ?_;rotate_left;(focus refine Or.inl ⟨by rfl,?_⟩;rintro w' s0;go_simp;try rfl);simp only [Act.put,actP,actQ])
    refine wpHJ_only 27 (by kernel_rfl) rfl (fun K hK=>?_)
    go_simp
    obtain ⟨w6,hw6⟩:∃ W,((wr.setCell ⟨g,k*2,none⟩ (.string ⟨y.1.toArray⟩)).setCell ⟨g,k*2+1,none⟩ (.int .i64 y.2)).drew=W:=⟨_,rfl⟩
    rw [hw6]
    have HW6:=hid hw6
    have hD6:w6.cell? ⟨w4.heap.size,2,none⟩=some (.slice (some ⟨g,0,none⟩) nc yc):=HD6.out w6 hw6
    obtain ⟨ea,eb,ec,ed⟩:=HC6.out w6 hw6
    clear hw6 c0 c1 c2 c3 d0 d1 d2 d3 fr0 fr1
    refine hK _ _ (.inr (.inr hD6)) ?_
    clear hK K
    (refine wpHJ_nx (v:=?_) 30 rfl rfl (by kernel_rfl) nE hD6 ?_ ?_;rotate_left;(focus refine Or.inl ⟨by rfl,?_⟩;rintro w' s0;go_simp;try rfl);simp only [Act.put,actP,actQ])
    refine wpHJ_only 29 (by kernel_rfl) rfl (fun K hK=>?_)
    go_simp
    obtain ⟨w7,hw7⟩:∃ W,(w6.setCell ⟨g,j*2,none⟩ (.string ⟨x.1.toArray⟩)).setCell ⟨g,j*2+1,none⟩ (.int .i64 x.2)=W:=⟨_,rfl⟩
    rw [hw7]
    have HW7:=hid hw7
    have hD7:w7.cell? ⟨w4.heap.size,2,none⟩=some (.slice (some ⟨g,0,none⟩) nc yc):=HD7.out w6 w7 HW6.out hw7
    clear hw7
    refine hK _ _ (.inr (.inr hD7)) ?_
    clear hK K
    refine wpHJ_done (by kernel_rfl) ?_ _
    simp only [onlyN,Exit.then]
    clear hFa
    go_wp2_with fail
    go_roundw
    case rel=>exact HREL.out w6 w7 HW6.out HW7.out
    case measure=>exact HMEA.out
  ·obtain rfl:k=hf:=by omega
   have HKE2:=hid hke;have HSZ2x:=hid hsz;have HBR2:=hid hbr
   have HGA2:=hid (show GA kBind (w.heap.size+1) 31 wr (.slice rc nc yc) q.ch.reverse from by
    rw [← hhf,← HLN2.out] at hsw
    exact hsw.fin ▸ hga)
   clear hga hke hsz hbr hsw hhf hk hnn
   generalize wr=w8 at *
   have HXw8:=hid (show BxL 26 w4.heap.size [.slice ra nl ya,.slice rb no yb,.slice rc nc yc,.slice rd ns yd,.bool q.sens,.int .i64 q.steps,.int .i64 q.paths,.int .i64 q.nodes,.int .i64 q.conf] w8 from HXw5.out.keep (HKE2.out _ HOD2.out))
   have HBw8:=hid HBR2.out
   have HL8:=hid (show GA kStr (w.heap.size+1) 9 w8 (.slice ra nl ya) q.lv from HGR5.out.lv.own kS fun k hk=>HKE2.out k fun e=>ne_tyA HGR5.out.lv HGR5.out.ch (by decide) k hk e)
   have HO8:=hid (show GA kPair (w.heap.size+1) 58 w8 (.slice rb no yb) q.od from HGR5.out.od.own kP fun k hk=>HKE2.out k fun e=>ne_tyA HGR5.out.od HGR5.out.ch (by decide) k hk e)
   have HS8:=hid (show GA kBind (w.heap.size+1) 31 w8 (.slice rd ns yd) q.st from HGR5.out.st.own kB fun k hk=>HKE2.out k fun e=>HGR5.out.ne k e hk)
   have HC8:=hid HGA2.out
   have HP8:=hid (show BxL 26 w.heap.size [.slice qa nl xa,.slice qb no xb,.slice qc nc xc,.slice qd ns xd,.bool q.sens,.int .i64 q.steps,.int .i64 q.paths,.int .i64 q.nodes,.int .i64 q.conf] w8 from HP5.out.keep (HKE2.out _ HOB2.out))
   have HV8:=hid (show PoV (·<w3.heap.size) w8 (.slice qa nl xa) (.slice qb no xb) (.slice qc nc xc) (.slice qd ns xd) q from HV3.out.keep fun k hk=>⟨hk,(HKE2.out k fun e=>by have:=HLW2.out k e;omega).trans (HK35.out k hk)⟩)
   go_wp2_with fail
   clear hD hH2 hH3 hlt
   go_loopw [6] (fun iv wr=>∃ (k:Nat) (T:List (Bs × Int)),k≤ns / 2∧iv = .int .i64 (k:Int)∧Swp q.st T k∧GA kBind (w.heap.size+1) 31 wr (.slice rd ns yd) T∧(∀ i,(.slice rd ns yd:Value).ownBlock ≠ some i→wr.heap[i]?=w8.heap[i]?)∧wr.heap.size=w8.heap.size∧Below w.heap.size w wr) (fun iv _=>ns - (intOf iv).toNat)
   case atStart=>exact ⟨0,q.st,Nat.zero_le _,rfl,Swp.zero _,HS8.out,fun _ _=>rfl,rfl,HBw8.out⟩
   case round =>
    obtain ⟨k,T,hk,rfl,hsw,hga,hke,hsz,hbr⟩:=hrel
    have hD:wr.cell? ⟨w4.heap.size,3,none⟩=some (.slice rd ns yd):=BxL.at (HXw8.out.keep (hke _ HOD3.out)) 3 rfl
    have hH2:Int.tdiv (ns:Int) 2=((ns / 2:Nat):Int):=by rw [Int.tdiv_eq_ediv_of_nonneg (by omega)];simp
    obtain ⟨hf,hhf⟩:∃ h,ns / 2=h:=⟨_,rfl⟩
    rw [hhf] at hk hH2
    have hnn:=HNN3.out
    have hH3:IntKind.i64.wrap (hf:Int)=(hf:Int):=IntWalk.i64_in _ (by omega)
    by_cases hlt:k<hf
    ·have htl:T.length=ns:=hsw.1.trans HLN3.out
     obtain ⟨g,hp,hgB,hgs,hcap,hat,hfr,hput⟩:=hga.bindAt htl.symm (by omega)
     subst hp
     obtain ⟨j,hj⟩:∃ j,ns - 1 - k=j:=⟨_,rfl⟩
     have hkj:k<j:=by omega
     have hkn:k<ns:=by omega
     have hjn:j<ns:=by omega
     obtain ⟨x,hx⟩:∃ x,T[k]?=some x:=⟨T[k]'(by omega),List.getElem?_eq_getElem _⟩
     obtain ⟨y,hy⟩:∃ y,T[j]?=some y:=⟨T[j]'(by omega),List.getElem?_eq_getElem _⟩
     obtain ⟨c0,c1⟩:=hat k x hx
     obtain ⟨c2,c3⟩:=hat j y hy
     have d0:wr.drew.cell? ⟨g,k*2,none⟩=some (.string ⟨x.1.toArray⟩):=c0
     have d1:wr.drew.cell? ⟨g,k*2+1,none⟩=some (.int .i64 x.2):=c1
     have d2:wr.drew.cell? ⟨g,j*2,none⟩=some (.string ⟨y.1.toArray⟩):=c2
     have d3:wr.drew.cell? ⟨g,j*2+1,none⟩=some (.int .i64 y.2):=c3
     have fr0:∀ i,wr.drew.frozen? ⟨g,i,none⟩=false:=hfr
     have fr1:∀ i,wr.frozen? ⟨g,i,none⟩=false:=hfr
     obtain ⟨n1,hn1⟩:∃ n,ns - 1=n:=⟨_,rfl⟩
     have hw1:IntKind.i64.wrap ((ns:Int) - 1)=(n1:Int):=by rw [IntWalk.i64_in _ (by omega)];omega
     have hw2:IntKind.i64.wrap ((n1:Int) - (k:Int))=(j:Int):=by rw [IntWalk.i64_in _ (by omega)];omega
     have hwg:w.heap.size≤g:=by omega
     have hdg:w4.heap.size ≠ g:=fun e=>HOD3.out (by rw [e];rfl)
     have HG6:=hid (fun w6 (h:((wr.setCell ⟨g,k*2,none⟩ (.string ⟨y.1.toArray⟩)).setCell ⟨g,k*2+1,none⟩ (.int .i64 y.2)).drew=w6)=>show GA kBind (w.heap.size+1) 31 w6 (.slice (some ⟨g,0,none⟩) ns yd) (T.set k y) from h ▸ (hput k y hkn).own kB fun _ _=>rfl)
     have HD6:=hid (fun w6 (h:((wr.setCell ⟨g,k*2,none⟩ (.string ⟨y.1.toArray⟩)).setCell ⟨g,k*2+1,none⟩ (.int .i64 y.2)).drew=w6)=>show w6.cell? ⟨w4.heap.size,3,none⟩=some (.slice (some ⟨g,0,none⟩) ns yd) from by
      have h9:BxL 26 w4.heap.size [.slice ra nl ya,.slice rb no yb,.slice rc nc yc,.slice (some ⟨g,0,none⟩) ns yd,.bool q.sens,.int .i64 q.steps,.int .i64 q.paths,.int .i64 q.nodes,.int .i64 q.conf] w6:=HXw8.out.keep (by rw [← h,heap_dr,heap_ot hdg,heap_ot hdg];exact hke _ HOD3.out)
      exact h9.at 3 rfl)
     have HC6:=hid (fun w6 (h:((wr.setCell ⟨g,k*2,none⟩ (.string ⟨y.1.toArray⟩)).setCell ⟨g,k*2+1,none⟩ (.int .i64 y.2)).drew=w6)=>show w6.cell? ⟨g,j*2,none⟩=some (.string ⟨y.1.toArray⟩)∧w6.cell? ⟨g,j*2+1,none⟩=some (.int .i64 y.2)∧w6.frozen? ⟨g,j*2,none⟩=false∧w6.frozen? ⟨g,j*2+1,none⟩=false from by
      obtain ⟨g2,e,_,_,_,hat6,hfr6,_⟩:=(HG6.out w6 h).bindAt (by rw [List.length_set];omega) (by omega)
      cases e
      have hyj:(T.set k y)[j]?=some y:=by rw [List.getElem?_set_ne (by omega)];exact hy
      exact ⟨(hat6 j y hyj).1,(hat6 j y hyj).2,hfr6 _,hfr6 _⟩)
     have HD7:=hid (fun w6 w7 (h:((wr.setCell ⟨g,k*2,none⟩ (.string ⟨y.1.toArray⟩)).setCell ⟨g,k*2+1,none⟩ (.int .i64 y.2)).drew=w6) (h7:(w6.setCell ⟨g,j*2,none⟩ (.string ⟨x.1.toArray⟩)).setCell ⟨g,j*2+1,none⟩ (.int .i64 x.2)=w7)=>show w7.cell? ⟨w4.heap.size,3,none⟩=some (.slice (some ⟨g,0,none⟩) ns yd) from by
      have h9:BxL 26 w4.heap.size [.slice ra nl ya,.slice rb no yb,.slice rc nc yc,.slice (some ⟨g,0,none⟩) ns yd,.bool q.sens,.int .i64 q.steps,.int .i64 q.paths,.int .i64 q.nodes,.int .i64 q.conf] w7:=HXw8.out.keep (by rw [← h7,heap_ot hdg,heap_ot hdg,← h,heap_dr,heap_ot hdg,heap_ot hdg];exact hke _ HOD3.out)
      exact h9.at 3 rfl)
     have hk1:k+1≤ns / 2:=by omega
     have HREL:=hid (fun w6 w7 (h:((wr.setCell ⟨g,k*2,none⟩ (.string ⟨y.1.toArray⟩)).setCell ⟨g,k*2+1,none⟩ (.int .i64 y.2)).drew=w6) (h7:(w6.setCell ⟨g,j*2,none⟩ (.string ⟨x.1.toArray⟩)).setCell ⟨g,j*2+1,none⟩ (.int .i64 x.2)=w7)=>show ∃ (k':Nat) (T:List (Bs × Int)),k'≤ns / 2∧Value.int .i64 ((k:Int)+1) = .int .i64 (k':Int)∧Swp q.st T k'∧GA kBind (w.heap.size+1) 31 w7 (.slice (some ⟨g,0,none⟩) ns yd) T∧(∀ i,(.slice (some ⟨g,0,none⟩) ns yd:Value).ownBlock ≠ some i→w7.heap[i]?=w8.heap[i]?)∧w7.heap.size=w8.heap.size∧Below w.heap.size w w7 from by
      have hsn:=hsw.next (by rw [HLN3.out];omega) hx (by rw [HLN3.out,hj];exact hy)
      rw [HLN3.out,hj] at hsn
      refine ⟨k+1,_,hk1,rfl,hsn,?_,fun i hi=>?_,?_,?_⟩
      ·obtain ⟨g2,e,_,_,_,_,_,hput6⟩:=(HG6.out w6 h).bindAt (by rw [List.length_set];omega) (by omega)
       cases e
       exact h7 ▸ hput6 j x hjn
      ·have hig:i ≠ g:=fun e=>hi (by rw [e];rfl)
       rw [← h7,heap_ot hig,heap_ot hig,← h,heap_dr,heap_ot hig,heap_ot hig]
       exact hke i hi
      ·rw [← h7,World.size_setCell,World.size_setCell,← h,size_dr,World.size_setCell,World.size_setCell]
       exact hsz
      ·rw [← h7,← h]
       exact (((hbr.setCell (p:=⟨g,k*2,none⟩) hwg _).setCell (p:=⟨g,k*2+1,none⟩) hwg _).drew.setCell (p:=⟨g,j*2,none⟩) hwg _).setCell (p:=⟨g,j*2+1,none⟩) hwg _)
     have HMEA:=hid (show ns - (intOf (.int .i64 ((k:Int)+1))).toNat<ns - (intOf (.int .i64 (k:Int))).toNat from by show ns - ((k:Int)+1).toNat<ns - (k:Int).toNat;omega)
     clear hga hke hsz hbr hsw hput hat hfr hcap hk hhf htl hx hy hj hn1 hk1 hdg HG6
     go_upto_region 11 with fail
     have hS:(fun W=>W.cell? ⟨w4.heap.size,3,none⟩=some (.slice (some ⟨g,0,none⟩) ns yd)) wr.drew:=hD
     have hFa:=fT
     refine rgN (fun W=>W.cell? ⟨w4.heap.size,3,none⟩=some (.slice (some ⟨g,0,none⟩) ns yd)) 30 (by kernel_rfl) ?_
     simp only [List.size_toArray,List.length_cons,List.length_nil,Nat.reduceAdd]
     (refine wpHJ_nx (v:=?_) 30 rfl rfl (by kernel_rfl) nE hS ?_ ?_;rotate_left;(focus refine Or.inl ⟨by rfl,?_⟩;rintro w' s0;go_simp;try rfl);simp only [Act.put,actP,actQ])
     (refine wpHJ_nx (v:=?_) 30 rfl rfl (by kernel_rfl) nE hS ?_ ?_;rotate_left;(focus refine Or.inl ⟨by rfl,?_⟩;rintro w' s0;go_simp;try rfl);simp only [Act.put,actP,actQ])
     (refine wpHJ_nx (v:=?_) 30 rfl rfl (by kernel_rfl) nE hS ?_ ?_;rotate_left;(focus refine Or.inl ⟨by rfl,?_⟩;rintro w' s0;go_simp;try rfl);simp only [Act.put,actP,actQ])
     (refine wpHJ_nx (v:=?_) 30 rfl rfl (by kernel_rfl) nE hS ?_ ?_;rotate_left;(focus refine Or.inl ⟨by rfl,?_⟩;rintro w' s0;go_simp;try rfl);simp only [Act.put,actP,actQ])
     (refine wpHJ_nx (v:=?_) 30 rfl rfl (by kernel_rfl) nE hS ?_ ?_;rotate_left;(focus refine Or.inl ⟨by rfl,?_⟩;rintro w' s0;go_simp;try rfl);simp only [Act.put,actP,actQ])
     (refine wpHJ_nx (v:=?_) 30 rfl rfl (by kernel_rfl) nE hS ?_ ?_;rotate_left;(focus refine Or.inl ⟨by rfl,?_⟩;rintro w' s0;go_simp;try rfl);simp only [Act.put,actP,actQ])
     (refine wpHJ_nx (v:=?_) 30 rfl rfl (by kernel_rfl) nE hS ?_ ?_;rotate_left;(focus refine Or.inl ⟨by rfl,?_⟩;rintro w' s0;go_simp;try rfl);simp only [Act.put,actP,actQ])
     (refine wpHJ_nx (v:=?_) 30 rfl rfl (by kernel_rfl) nE hS ?_ ?_;rotate_left;(focus refine Or.inl ⟨by rfl,?_⟩;rintro w' s0;go_simp;try rfl);simp only [Act.put,actP,actQ])
     (refine wpHJ_nx (v:=?_) 30 rfl rfl (by kernel_rfl) nE hS ?_ ?_;rotate_left;(focus refine Or.inl ⟨by rfl,?_⟩;rintro w' s0;go_simp;try rfl);simp only [Act.put,actP,actQ])
     (refine wpHJ_nx (v:=?_) 30 rfl rfl (by kernel_rfl) nE hS ?_ ?_;rotate_left;(focus refine Or.inl ⟨by rfl,?_⟩;rintro w' s0;go_simp;try rfl);simp only [Act.put,actP,actQ])
     (refine wpHJ_nx (v:=?_) 30 rfl rfl (by kernel_rfl) nE hS ?_ ?_;rotate_left;(focus refine Or.inl ⟨by rfl,?_⟩;rintro w' s0;go_simp;try rfl);simp only [Act.put,actP,actQ])
     (refine wpHJ_nx (v:=?_) 30 rfl rfl (by kernel_rfl) nE hS ?_ ?_;rotate_left;(focus refine Or.inl ⟨by rfl,?_⟩;rintro w' s0;go_simp;try rfl);simp only [Act.put,actP,actQ])
     (refine wpHJ_nx (v:=?_) 30 rfl rfl (by kernel_rfl) nE hS ?_ ?_;rotate_left;(focus refine Or.inl ⟨by rfl,?_⟩;rintro w' s0;go_simp;try rfl);simp only [Act.put,actP,actQ])
     (refine wpHJ_nx (v:=?_) 30 rfl rfl (by kernel_rfl) nE hS ?_ ?_;rotate_left;(focus refine Or.inl ⟨by rfl,?_⟩;rintro w' s0;go_simp;try rfl);simp only [Act.put,actP,actQ])
     (refine wpHJ_nx (v:=?_) 30 rfl rfl (by kernel_rfl) nE hS ?_ ?_;rotate_left;(focus refine Or.inl ⟨by rfl,?_⟩;rintro w' s0;go_simp;try rfl);simp only [Act.put,actP,actQ])
     (refine wpHJ_nx (v:=?_) 30 rfl rfl (by kernel_rfl) nE hS ?_ ?_;rotate_left;(focus refine Or.inl ⟨by rfl,?_⟩;rintro w' s0;go_simp;try rfl);simp only [Act.put,actP,actQ])
     (refine wpHJ_nx (v:=?_) 30 rfl rfl (by kernel_rfl) nE hS ?_ ?_;rotate_left;(focus refine Or.inl ⟨by rfl,?_⟩;rintro w' s0;go_simp;try rfl);simp only [Act.put,actP,actQ])
     (refine wpHJ_nx (v:=?_) 30 rfl rfl (by kernel_rfl) nE hS ?_ ?_;rotate_left;(focus refine Or.inl ⟨by rfl,?_⟩;rintro w' s0;go_simp;try rfl);simp only [Act.put,actP,actQ])
     (refine wpHJ_nx (v:=?_) 30 rfl rfl (by kernel_rfl) nE hS ?_ ?_;rotate_left;(focus refine Or.inl ⟨by rfl,?_⟩;rintro w' s0;go_simp;try rfl);simp only [Act.put,actP,actQ])
     (refine wpHJ_nx (v:=?_) 30 rfl rfl (by kernel_rfl) nE hS ?_ ?_;rotate_left;(focus refine Or.inl ⟨by rfl,?_⟩;rintro w' s0;go_simp;try rfl);simp only [Act.put,actP,actQ])
     (refine wpHJ_nx (v:=?_) 31 rfl rfl (by kernel_rfl) nE hS ?_ ?_;rotate_left;(focus refine Or.inl ⟨by rfl,?_⟩;rintro w' s0;go_simp;try rfl);simp only [Act.put,actP,actQ])
     (refine wpHJ_nx (v:=?_) 31 rfl rfl (by kernel_rfl) nE hS ?_ ?_;rotate_left;(focus refine Or.inl ⟨by rfl,?_⟩;rintro w' s0;go_simp;try rfl);simp only [Act.put,actP,actQ])
     (refine wpHJ_nx (v:=?_) 31 rfl rfl (by kernel_rfl) nE hS ?_ ?_;rotate_left;(focus refine Or.inl ⟨by rfl,?_⟩;rintro w' s0;go_simp;try rfl);simp only [Act.put,actP,actQ])
     (refine wpHJ_nx (v:=?_) 31 rfl rfl (by kernel_rfl) nE hS ?_ ?_;rotate_left;(focus refine Or.inl ⟨by rfl,?_⟩;rintro w' s0;go_simp;try rfl);simp only [Act.put,actP,actQ])
     refine wpHJ_both 20 25 (by kernel_rfl) rfl rfl (fun K hK=>?_) (fun K hK=>?_)
     ·go_simp
      refine hK _ _ (.inr (.inr hS)) ?_
      clear hK K
      refine wpHJ_only 25 (by kernel_rfl) rfl (fun K hK=>?_)
      go_simp
      refine hK _ _ (.inr (.inr hS)) ?_
      clear hK K
      (refine wpHJ_nx (v:=?_) 30 rfl rfl (by kernel_rfl) nE hS ?_ ?_;rotate_left;(focus refine Or.inl ⟨by rfl,?_⟩;rintro w' s0;go_simp;try rfl);simp only [Act.put,actP,actQ])
      refine wpHJ_only 27 (by kernel_rfl) rfl (fun K hK=>?_)
      go_simp
      obtain ⟨w6,hw6⟩:∃ W,((wr.setCell ⟨g,k*2,none⟩ (.string ⟨y.1.toArray⟩)).setCell ⟨g,k*2+1,none⟩ (.int .i64 y.2)).drew=W:=⟨_,rfl⟩
      rw [hw6]
      have HW6:=hid hw6
      have hD6:w6.cell? ⟨w4.heap.size,3,none⟩=some (.slice (some ⟨g,0,none⟩) ns yd):=HD6.out w6 hw6
      obtain ⟨ea,eb,ec,ed⟩:=HC6.out w6 hw6
      clear hw6 c0 c1 c2 c3 d0 d1 d2 d3 fr0 fr1
      refine hK _ _ (.inr (.inr hD6)) ?_
      clear hK K
      (refine wpHJ_nx (v:=?_) 30 rfl rfl (by kernel_rfl) nE hD6 ?_ ?_;rotate_left;(focus refine Or.inl ⟨by rfl,?_⟩;rintro w' s0;go_simp;try rfl);simp only [Act.put,actP,actQ])
      refine wpHJ_only 29 (by kernel_rfl) rfl (fun K hK=>?_)
      go_simp
      obtain ⟨w7,hw7⟩:∃ W,(w6.setCell ⟨g,j*2,none⟩ (.string ⟨x.1.toArray⟩)).setCell ⟨g,j*2+1,none⟩ (.int .i64 x.2)=W:=⟨_,rfl⟩
      rw [hw7]
      have HW7:=hid hw7
      have hD7:w7.cell? ⟨w4.heap.size,3,none⟩=some (.slice (some ⟨g,0,none⟩) ns yd):=HD7.out w6 w7 HW6.out hw7
      clear hw7
      refine hK _ _ (.inr (.inr hD7)) ?_
      clear hK K
      refine wpHJ_done (by kernel_rfl) ?_ _
      simp only [onlyN,Exit.then]
      clear hFa
      go_wp2_with fail
      go_roundw
      case rel=>exact HREL.out w6 w7 HW6.out HW7.out
      case measure=>exact HMEA.out
     ·go_simp
      refine hK _ _ (.inr (.inr hS)) ?_
      clear hK K
      refine wpHJ_only 20 (by kernel_rfl) rfl (fun K hK=>?_)
      go_simp
      refine hK _ _ (.inr (.inr hS)) ?_
      clear hK K
      (refine wpHJ_nx (v:=?_) 30 rfl rfl (by kernel_rfl) nE hS ?_ ?_;rotate_left;(focus refine Or.inl ⟨by rfl,?_⟩;rintro w' s0;go_simp;try rfl);simp only [Act.put,actP,actQ])
      refine wpHJ_only 27 (by kernel_rfl) rfl (fun K hK=>?_)
      go_simp
      obtain ⟨w6,hw6⟩:∃ W,((wr.setCell ⟨g,k*2,none⟩ (.string ⟨y.1.toArray⟩)).setCell ⟨g,k*2+1,none⟩ (.int .i64 y.2)).drew=W:=⟨_,rfl⟩
      rw [hw6]
      have HW6:=hid hw6
      have hD6:w6.cell? ⟨w4.heap.size,3,none⟩=some (.slice (some ⟨g,0,none⟩) ns yd):=HD6.out w6 hw6
      obtain ⟨ea,eb,ec,ed⟩:=HC6.out w6 hw6
      clear hw6 c0 c1 c2 c3 d0 d1 d2 d3 fr0 fr1
      refine hK _ _ (.inr (.inr hD6)) ?_
      clear hK K
      (refine wpHJ_nx (v:=?_) 30 rfl rfl (by kernel_rfl) nE hD6 ?_ ?_;rotate_left;(focus refine Or.inl ⟨by rfl,?_⟩;rintro w' s0;go_simp;try rfl);simp only [Act.put,actP,actQ])
      refine wpHJ_only 29 (by kernel_rfl) rfl (fun K hK=>?_)
      go_simp
      obtain ⟨w7,hw7⟩:∃ W,(w6.setCell ⟨g,j*2,none⟩ (.string ⟨x.1.toArray⟩)).setCell ⟨g,j*2+1,none⟩ (.int .i64 x.2)=W:=⟨_,rfl⟩
      rw [hw7]
      have HW7:=hid hw7
      have hD7:w7.cell? ⟨w4.heap.size,3,none⟩=some (.slice (some ⟨g,0,none⟩) ns yd):=HD7.out w6 w7 HW6.out hw7
      clear hw7
      refine hK _ _ (.inr (.inr hD7)) ?_
      clear hK K
      refine wpHJ_done (by kernel_rfl) ?_ _
      simp only [onlyN,Exit.then]
      clear hFa
      go_wp2_with fail
      go_roundw
      case rel=>exact HREL.out w6 w7 HW6.out HW7.out
      case measure=>exact HMEA.out
    ·obtain rfl:k=hf:=by omega
     have HKE3:=hid hke;have HSZ3:=hid hsz;have HBR3:=hid hbr
     have HGA3:=hid (show GA kBind (w.heap.size+1) 31 wr (.slice rd ns yd) q.st.reverse from by
      rw [← hhf,← HLN3.out] at hsw
      exact hsw.fin ▸ hga)
     clear hga hke hsz hbr hsw hhf hk hnn
     generalize wr=w9 at *
     have HX9:=hid (show BxL 26 w4.heap.size [.slice ra nl ya,.slice rb no yb,.slice rc nc yc,.slice rd ns yd,.bool q.sens,.int .i64 q.steps,.int .i64 q.paths,.int .i64 q.nodes,.int .i64 q.conf] w9 from HXw8.out.keep (HKE3.out _ HOD3.out))
     have HB9:=hid HBR3.out
     have HP9:=hid (show BxL 26 w.heap.size [.slice qa nl xa,.slice qb no xb,.slice qc nc xc,.slice qd ns xd,.bool q.sens,.int .i64 q.steps,.int .i64 q.paths,.int .i64 q.nodes,.int .i64 q.conf] w9 from HP8.out.keep (HKE3.out _ HOB3.out))
     have HV9:=hid (show PoV (·<w9.heap.size) w9 (.slice qa nl xa) (.slice qb no xb) (.slice qc nc xc) (.slice qd ns xd) q from HV8.out.keep fun k hk=>⟨by have h1:=HSZ3.out;have h2:=HSZ2x.out;have h3:=HS4.out;have h4:=HS5.out;omega,HKE3.out k fun e=>by have:=HLW3.out k e;omega⟩)
     have HR9:=hid (show PoV (·<w9.heap.size) w9 (.slice ra nl ya) (.slice rb no yb) (.slice rc nc yc) (.slice rd ns yd) (revP q) from by
      have hl:=HQL.out
      have g1:GA kStr (w.heap.size+1) 9 w9 (.slice ra nl ya) q.lv:=HL8.out.own kS fun k hk=>HKE3.out k fun e=>ne_tyA HL8.out HS8.out (by decide) k hk e
      have g2:GA kPair (w.heap.size+1) 58 w9 (.slice rb no yb) q.od:=HO8.out.own kP fun k hk=>HKE3.out k fun e=>ne_tyA HO8.out HS8.out (by decide) k hk e
      have g3:GA kBind (w.heap.size+1) 31 w9 (.slice rc nc yc) q.ch.reverse:=HC8.out.own kB fun k hk=>HKE3.out k fun e=>HGR5.out.ne k hk e
      exact ⟨(g1.reads kS (Nat.le_trans hl.1 (by decide))).weaken fun k hk=>hk.2,(g2.reads kP (Nat.le_trans hl.2.1 (by decide))).weaken fun k hk=>hk.2,(g3.reads kB (by rw [List.length_reverse];exact Nat.le_trans hl.2.2.1 (by decide))).weaken fun k hk=>hk.2,(HGA3.out.reads kB (by rw [List.length_reverse];exact Nat.le_trans hl.2.2.2 (by decide))).weaken fun k hk=>hk.2⟩)
     obtain ⟨cr,hcr⟩:∃ c,checkP (revP q)=c:=⟨_,rfl⟩
     have HCR:=hid (fun W (hW:Below w.heap.size w W) (hv:PoV (·<W.heap.size) W (.slice ra nl ya) (.slice rb no yb) (.slice rc nc yc) (.slice rd ns yd) (revP q))=>show Calls Tryd.prog 7 #[.agg #[.slice ra nl ya,.slice rb no yb,.slice rc nc yc,.slice rd ns yd,.bool q.sens,.int .i64 q.steps,.int .i64 q.paths,.int .i64 q.nodes,.int .i64 q.conf]] W (fun e w'=>e = .returned (.int .i64 cr)∧Below W.heap.size W w') from check_w (revP q) cr hcr _ _ _ _ W hv (rev_s HQS.out) (HE.out.keep hW))
     have HRV:=hid (show cr=0 ↔ ck=0 from by rw [← hcr,← HCKV.out];exact rev_ok q)
     obtain ⟨lat,hlat⟩:∃ z,latE nl q.od=z:=⟨_,rfl⟩
     have HLT:=hid hlat
     have HLN:=hid (fun W (hW:Below w.heap.size w W) (hv:PoV (·<W.heap.size) W (.slice qa nl xa) (.slice qb no xb) (.slice qc nc xc) (.slice qd ns xd) q)=>show Calls Tryd.prog 9 #[.int .i64 (nl:Int),.slice qb no xb] W (fun e w'=>(∃ p,e = .returned (.tuple #[.pointer p,.int .i64 lat]))∧Below W.heap.size W w') from by
      have h1:=new_any nl q.od _ W hv.2.1 (by rw [← HNL.out,← HQ.out];show (p.lv.take 34).length≤_;rw [List.length_take];omega) (HE.out.keep hW).po.bru
      rw [HLT.out] at h1
      exact h1)
     have HAW:=hid (fun W (hW:Below w.heap.size w W)=>awake28_any W (HE.out.keep hW))
     clear hcr hlat
     have n0:w9.cell? ⟨w4.heap.size,0,none⟩=some (.slice ra nl ya):=HX9.out.at 0 rfl
     have n1:w9.cell? ⟨w4.heap.size,1,none⟩=some (.slice rb no yb):=HX9.out.at 1 rfl
     have n2:w9.cell? ⟨w4.heap.size,2,none⟩=some (.slice rc nc yc):=HX9.out.at 2 rfl
     have n3:w9.cell? ⟨w4.heap.size,3,none⟩=some (.slice rd ns yd):=HX9.out.at 3 rfl
     have n4:w9.cell? ⟨w4.heap.size,4,none⟩=some (.bool q.sens):=HX9.out.at 4 rfl
     have n5:w9.cell? ⟨w4.heap.size,5,none⟩=some (.int .i64 q.steps):=HX9.out.at 5 rfl
     have n6:w9.cell? ⟨w4.heap.size,6,none⟩=some (.int .i64 q.paths):=HX9.out.at 6 rfl
     have n7:w9.cell? ⟨w4.heap.size,7,none⟩=some (.int .i64 q.nodes):=HX9.out.at 7 rfl
     have n8:w9.cell? ⟨w4.heap.size,8,none⟩=some (.int .i64 q.conf):=HX9.out.at 8 rfl
     by_cases h0:ck=0
     ·have h1:cr=0:=HRV.out.2 h0
      subst h0 h1
      have hl0:lat=0:=by
       have h2:=(order_law q).1 HCKV.out
       rw [HNL.out,HLT.out] at h2
       exact h2
      subst hl0
      go_upto_region 14 with (go_at_call 7;(with_reducible refine (HCR.out _ HB9.out HR9.out).mono ?_);rintro e wa ⟨rfl,hb⟩;have HBa:=hid (HB9.out.trans (hb.mono HB9.out.size));have HPa:=hid (HP9.out.bel hb);have HVa:=hid (HV9.out.below hb);clear hb)
      clear n0 n1 n2 n3 n4 n5 n6 n7 n8
      obtain ⟨m0,m1⟩:=HPa.out.p2
      go_wp2_with (first
       | (go_at_call 9;(with_reducible refine (HLN.out _ HBa.out HVa.out).mono ?_);rintro e wb ⟨⟨pt,rfl⟩,hb⟩;have HBb:=hid (HBa.out.trans (hb.mono HBa.out.size));have HPb:=hid (HPa.out.bel hb);have HVb:=hid (HVa.out.below hb);clear hb)
       | (go_at_call 10;(with_reducible refine (HAW.out _ HBb.out).mono ?_);rintro e wc ⟨rfl,hb⟩;have HBc:=hid (HBb.out.trans (hb.mono HBb.out.size));clear hb))
      go_ret
      exact ⟨rfl,HBc.out⟩
     ·have k1:(ck == 0)=false:=beq_eq_false_iff_ne.2 h0
      have k2:(cr == 0)=false:=beq_eq_false_iff_ne.2 fun e=>h0 (HRV.out.1 e)
      clear h0
      go_upto_region 14 with (go_at_call 7;(with_reducible refine (HCR.out _ HB9.out HR9.out).mono ?_);rintro e wa ⟨rfl,hb⟩;have HBa:=hid (HB9.out.trans (hb.mono HB9.out.size));have HPa:=hid (HP9.out.bel hb);have HVa:=hid (HV9.out.below hb);clear hb)
      clear n0 n1 n2 n3 n4 n5 n6 n7 n8
      obtain ⟨m0,m1⟩:=HPa.out.p2
      go_upto_region 18 with (first
       | (go_at_call 9;(with_reducible refine (HLN.out _ HBa.out HVa.out).mono ?_);rintro e wb ⟨⟨pt,rfl⟩,hb⟩;have HBb:=hid (HBa.out.trans (hb.mono HBa.out.size));have HPb:=hid (HPa.out.bel hb);have HVb:=hid (HVa.out.below hb);clear hb)
       | (go_at_call 11;(refine (plain_any _).mono ?_);rintro e w10 ⟨sa,za,sb,zb,sc,zc,sd,zd,rfl,hv,hb⟩;have HPL:=hid (hv.weaken fun k hk=>hk.2);have HB10:=hid (HBb.out.trans (hb.mono HBb.out.size));have HP10:=hid (HPb.out.bel hb);have HV10:=hid (HVb.out.below hb);clear hv hb))
      clear m0 m1
      obtain ⟨w11,hw11⟩:∃ W,w10.alloc (.cells #[.slice sa 2 za,.slice sb 1 zb,.slice sc 2 zc,.slice sd 0 zd,.bool true,.int .i64 20,.int .i64 16,.int .i64 0,.int .i64 0] 26)=W:=⟨_,rfl⟩
      have hb11:Below w10.heap.size w10 w11:=by rw [← hw11];exact (Below.refl _ _).alloc (Nat.le_refl _) _
      have HZ11:=hid (show BxL 26 w10.heap.size [.slice sa 2 za,.slice sb 1 zb,.slice sc 2 zc,.slice sd 0 zd,.bool true,.int .i64 20,.int .i64 16,.int .i64 0,.int .i64 0] w11 from by rw [← hw11];exact BxL.new _ _ _)
      have HP11:=hid (HP10.out.bel hb11)
      have HBE:=hid (show w.heap.size ≠ w10.heap.size from by have:=HP10.out.lt;omega)
      have HV11:=hid (HV10.out.keep fun k hk=>⟨hk,hb11.block k hk⟩:PoV (·<w10.heap.size) w11 _ _ _ _ q)
      have HPL11:=hid (HPL.out.keep fun k hk=>⟨hk,hb11.block k hk⟩:PoV (·<w10.heap.size) w11 _ _ _ _ p1P)
      have HB11:=hid (HB10.out.trans (hb11.mono HB10.out.size))
      have HS11:=hid (show w11.heap.size=w10.heap.size+1 from by rw [← hw11,World.size_alloc])
      rw [hw11]
      clear hw11 hb11
      have hS:(fun W=>W.cell? ⟨w.heap.size,0,none⟩=some (.slice qa nl xa)∧W.cell? ⟨w.heap.size,1,none⟩=some (.slice qb no xb)) w11.drew:=by
       have h9:BxL 26 w.heap.size [.slice qa nl xa,.slice qb no xb,.slice qc nc xc,.slice qd ns xd,.bool q.sens,.int .i64 q.steps,.int .i64 q.paths,.int .i64 q.nodes,.int .i64 q.conf] w11.drew:=HP11.out
       exact ⟨h9.at 0 rfl,h9.at 1 rfl⟩
      have z0:(w11.drew).cell? ⟨w10.heap.size,0,none⟩=some (.slice sa 2 za):=(HZ11.out.drJ).at 0 rfl
      have zf0:(w11.drew).frozen? ⟨w10.heap.size,0,none⟩=false:=(HZ11.out.drJ).fr 0
      have zn0:w11.cell? ⟨w10.heap.size,0,none⟩=some (.slice sa 2 za):=HZ11.out.at 0 rfl
      have zg0:w11.frozen? ⟨w10.heap.size,0,none⟩=false:=HZ11.out.fr 0
      have z1:((w11.drew).setCell ⟨w10.heap.size,0,none⟩ (.slice qa nl xa)).cell? ⟨w10.heap.size,1,none⟩=some (.slice sb 1 zb):=((HZ11.out.drJ.set 0 (.slice qa nl xa))).at 1 rfl
      have zf1:((w11.drew).setCell ⟨w10.heap.size,0,none⟩ (.slice qa nl xa)).frozen? ⟨w10.heap.size,1,none⟩=false:=((HZ11.out.drJ.set 0 (.slice qa nl xa))).fr 1
      have zn1:w11.cell? ⟨w10.heap.size,1,none⟩=some (.slice sb 1 zb):=HZ11.out.at 1 rfl
      have zg1:w11.frozen? ⟨w10.heap.size,1,none⟩=false:=HZ11.out.fr 1
      have z2:(((w11.drew).setCell ⟨w10.heap.size,0,none⟩ (.slice qa nl xa)).setCell ⟨w10.heap.size,1,none⟩ (.slice qb no xb)).cell? ⟨w10.heap.size,2,none⟩=some (.slice sc 2 zc):=(((HZ11.out.drJ.set 0 (.slice qa nl xa)).set 1 (.slice qb no xb))).at 2 rfl
      have zf2:(((w11.drew).setCell ⟨w10.heap.size,0,none⟩ (.slice qa nl xa)).setCell ⟨w10.heap.size,1,none⟩ (.slice qb no xb)).frozen? ⟨w10.heap.size,2,none⟩=false:=(((HZ11.out.drJ.set 0 (.slice qa nl xa)).set 1 (.slice qb no xb))).fr 2
      have zn2:w11.cell? ⟨w10.heap.size,2,none⟩=some (.slice sc 2 zc):=HZ11.out.at 2 rfl
      have zg2:w11.frozen? ⟨w10.heap.size,2,none⟩=false:=HZ11.out.fr 2
      have hS1:(fun W=>W.cell? ⟨w.heap.size,0,none⟩=some (.slice qa nl xa)∧W.cell? ⟨w.heap.size,1,none⟩=some (.slice qb no xb)) (((w11).setCell ⟨w10.heap.size,0,none⟩ (.slice qa nl xa)).drew):=by
       have h9:BxL 26 w.heap.size [.slice qa nl xa,.slice qb no xb,.slice qc nc xc,.slice qd ns xd,.bool q.sens,.int .i64 q.steps,.int .i64 q.paths,.int .i64 q.nodes,.int .i64 q.conf] (((w11).setCell ⟨w10.heap.size,0,none⟩ (.slice qa nl xa)).drew):=HP11.out.keep (by rw [heap_dr,heap_ot HBE.out])
       exact ⟨h9.at 0 rfl,h9.at 1 rfl⟩
      have hS2:(fun W=>W.cell? ⟨w.heap.size,0,none⟩=some (.slice qa nl xa)∧W.cell? ⟨w.heap.size,1,none⟩=some (.slice qb no xb)) ((((w11).setCell ⟨w10.heap.size,0,none⟩ (.slice qa nl xa)).setCell ⟨w10.heap.size,1,none⟩ (.slice qb no xb)).drew):=by
       have h9:BxL 26 w.heap.size [.slice qa nl xa,.slice qb no xb,.slice qc nc xc,.slice qd ns xd,.bool q.sens,.int .i64 q.steps,.int .i64 q.paths,.int .i64 q.nodes,.int .i64 q.conf] ((((w11).setCell ⟨w10.heap.size,0,none⟩ (.slice qa nl xa)).setCell ⟨w10.heap.size,1,none⟩ (.slice qb no xb)).drew):=HP11.out.keep (by rw [heap_dr,heap_ot HBE.out,heap_ot HBE.out])
       exact ⟨h9.at 0 rfl,h9.at 1 rfl⟩
      have hS3:(fun W=>W.cell? ⟨w.heap.size,0,none⟩=some (.slice qa nl xa)∧W.cell? ⟨w.heap.size,1,none⟩=some (.slice qb no xb)) (((((w11).setCell ⟨w10.heap.size,0,none⟩ (.slice qa nl xa)).setCell ⟨w10.heap.size,1,none⟩ (.slice qb no xb)).setCell ⟨w10.heap.size,2,none⟩ (.slice none 0 0)).drew):=by
       have h9:BxL 26 w.heap.size [.slice qa nl xa,.slice qb no xb,.slice qc nc xc,.slice qd ns xd,.bool q.sens,.int .i64 q.steps,.int .i64 q.paths,.int .i64 q.nodes,.int .i64 q.conf] (((((w11).setCell ⟨w10.heap.size,0,none⟩ (.slice qa nl xa)).setCell ⟨w10.heap.size,1,none⟩ (.slice qb no xb)).setCell ⟨w10.heap.size,2,none⟩ (.slice none 0 0)).drew):=HP11.out.keep (by rw [heap_dr,heap_ot HBE.out,heap_ot HBE.out,heap_ot HBE.out])
       exact ⟨h9.at 0 rfl,h9.at 1 rfl⟩
      have hFa:=fT
      refine rgN (fun W=>W.cell? ⟨w.heap.size,0,none⟩=some (.slice qa nl xa)∧W.cell? ⟨w.heap.size,1,none⟩=some (.slice qb no xb)) 10 (by kernel_rfl) ?_
      simp only [List.size_toArray,List.length_cons,List.length_nil,Nat.reduceAdd]
      iterate 5 (refine wpHJ_nx (v:=?_) 10 rfl rfl (by kernel_rfl) nE hS ?_ ?_;rotate_left;(focus refine Or.inl ⟨by rfl,?_⟩;rintro w' ⟨s0,s1⟩;go_simp;try rfl);simp only [Act.put,actP,actQ])
      refine wpHJ_only 5 (by kernel_rfl) rfl (fun K hK=>?_)
      go_simp
      refine hK _ _ (.inr (.inr hS1)) ?_
      clear hK K
      (refine wpHJ_nx (v:=?_) 10 rfl rfl (by kernel_rfl) nE hS1 ?_ ?_;rotate_left;(focus refine Or.inl ⟨by rfl,?_⟩;rintro w' ⟨s0,s1⟩;go_simp;try rfl);simp only [Act.put,actP,actQ])
      refine wpHJ_only 7 (by kernel_rfl) rfl (fun K hK=>?_)
      go_simp
      refine hK _ _ (.inr (.inr hS2)) ?_
      clear hK K
      (refine wpHJ_nx (v:=?_) 10 rfl rfl (by kernel_rfl) nE hS2 ?_ ?_;rotate_left;(focus refine Or.inl ⟨by rfl,?_⟩;rintro w' ⟨s0,s1⟩;go_simp;try rfl);simp only [Act.put,actP,actQ])
      refine wpHJ_only 9 (by kernel_rfl) rfl (fun K hK=>?_)
      go_simp
      refine hK _ _ (.inr (.inr hS3)) ?_
      clear hK K
      refine wpHJ_done (by kernel_rfl) ?_ _
      simp only [onlyN,Exit.then]
      clear hFa
      clear hS hS1 hS2 hS3 z0 zf0 zn0 zg0 z1 zf1 zn1 zg1 z2 zf2 zn2 zg2
      obtain ⟨w12,hw12⟩:∃ W,((((w11).setCell ⟨w10.heap.size,0,none⟩ (.slice qa nl xa)).setCell ⟨w10.heap.size,1,none⟩ (.slice qb no xb)).setCell ⟨w10.heap.size,2,none⟩ (.slice none 0 0)).drew=W:=⟨_,rfl⟩
      have hz12:BxL 26 w10.heap.size [.slice qa nl xa,.slice qb no xb,.slice none 0 0,.slice sd 0 zd,.bool true,.int .i64 20,.int .i64 16,.int .i64 0,.int .i64 0] w12:=by rw [← hw12];exact ((((HZ11.out.set 0 (.slice qa nl xa)).set 1 (.slice qb no xb)).set 2 (.slice none 0 0))).drJ
      have hk12:∀ i,i ≠ w10.heap.size→w12.heap[i]?=w11.heap[i]?:=fun i hi=>by rw [← hw12,heap_dr,heap_ot hi,heap_ot hi,heap_ot hi]
      have hs12:w12.heap.size=w10.heap.size+1:=by rw [← hw12,size_dr];simp only [World.size_setCell];exact HS11.out
      have HP12:=hid (show BxL 26 w.heap.size [.slice qa nl xa,.slice qb no xb,.slice qc nc xc,.slice qd ns xd,.bool q.sens,.int .i64 q.steps,.int .i64 q.paths,.int .i64 q.nodes,.int .i64 q.conf] w12 from HP11.out.keep (hk12 _ HBE.out))
      have HB12:=hid (show Below w.heap.size w w12 from by rw [← hw12];exact (((HB11.out.setCell (p:=⟨w10.heap.size,0,none⟩) HB10.out.size _).setCell (p:=⟨w10.heap.size,1,none⟩) HB10.out.size _).setCell (p:=⟨w10.heap.size,2,none⟩) HB10.out.size _).drew)
      have HVP:=hid (show PoV (·<w12.heap.size) w12 (.slice qa nl xa) (.slice qb no xb) (.slice none 0 0) (.slice sd 0 zd) (plainLv q) from
       ⟨HV11.out.1.keep fun k hk=>⟨by omega,hk12 k (by omega)⟩,HV11.out.2.1.keep fun k hk=>⟨by omega,hk12 k (by omega)⟩,SlG.nil,HPL11.out.2.2.2.keep fun k hk=>⟨by omega,hk12 k (by omega)⟩⟩)
      rw [hw12]
      have n0:w12.cell? ⟨w10.heap.size,0,none⟩=some (.slice qa nl xa):=hz12.at 0 rfl
      have n1:w12.cell? ⟨w10.heap.size,1,none⟩=some (.slice qb no xb):=hz12.at 1 rfl
      have n2:w12.cell? ⟨w10.heap.size,2,none⟩=some (.slice none 0 0):=hz12.at 2 rfl
      have n3:w12.cell? ⟨w10.heap.size,3,none⟩=some (.slice sd 0 zd):=hz12.at 3 rfl
      have n4:w12.cell? ⟨w10.heap.size,4,none⟩=some (.bool true):=hz12.at 4 rfl
      have n5:w12.cell? ⟨w10.heap.size,5,none⟩=some (.int .i64 20):=hz12.at 5 rfl
      have n6:w12.cell? ⟨w10.heap.size,6,none⟩=some (.int .i64 16):=hz12.at 6 rfl
      have n7:w12.cell? ⟨w10.heap.size,7,none⟩=some (.int .i64 0):=hz12.at 7 rfl
      have n8:w12.cell? ⟨w10.heap.size,8,none⟩=some (.int .i64 0):=hz12.at 8 rfl
      clear hw12 hz12 hk12 hs12
      obtain ⟨gk,hgk⟩:∃ g,checkP (plainLv q)=g:=⟨_,rfl⟩
      have HCG:=hid (show Calls Tryd.prog 7 #[.agg #[.slice qa nl xa,.slice qb no xb,.slice none 0 0,.slice sd 0 zd,.bool true,.int .i64 20,.int .i64 16,.int .i64 0,.int .i64 0]] w12 (fun e w'=>e = .returned (.int .i64 gk)∧Below w12.heap.size w12 w') from check_w (plainLv q) gk hgk _ _ _ _ w12 HVP.out ⟨HQS.out.lv,(by intro s hs;cases hs),(by intro s hs;cases hs)⟩ (HE.out.keep HB12.out))
      have HOL:=hid (show (lat=0∨gk ≠ 0)∧(gk=lat∨nl=0∨32<nl∨gk=4∨gk=8) from by
       have h2:=(order_law q).2
       rw [HNL.out,HLT.out,hgk] at h2
       refine ⟨h2.1,?_⟩
       rcases h2.2 with e | e | e
       ·exact .inl e
       ·exact .inr (.inl (by rw [← HNL.out,e];rfl))
       ·exact .inr (.inr e))
      clear hgk
      go_upto_region 20 with (go_at_call 7;(with_reducible refine HCG.out.mono ?_);rintro e w13 ⟨rfl,hb⟩;have HB13:=hid (HB12.out.trans (hb.mono HB12.out.size));have HP13:=hid (HP12.out.bel hb);clear hb)
      clear n0 n1 n2 n3 n4 n5 n6 n7 n8
      obtain ⟨m0,m1⟩:=HP13.out.p2
      have hnl9:=HNLE.out
      rcases (Decidable.em (lat=0)) with hA | hA0
      ·by_cases hN0:gk=lat
       ·have hB:=hN0
        clear hN0
        have a0:(lat == 0)=true:=by rw [beq_iff_eq];exact hA
        have b0:(gk == lat)=true:=by rw [beq_iff_eq];exact hB
        clear hB  hA
        go_wp2_with (go_at_call 10;(with_reducible refine (HAW.out _ HB13.out).mono ?_);rintro e w14 ⟨rfl,hb⟩;have HB14:=hid (HB13.out.trans (hb.mono HB13.out.size));clear hb)
        go_ret
        exact ⟨rfl,HB14.out⟩
       ·by_cases hN1:nl=0
        ·have hB:=hN1
         clear hN1
         have a0:(lat == 0)=true:=by rw [beq_iff_eq];exact hA
         have b0:(gk == lat)=false:=by rw [beq_eq_false_iff_ne];exact hN0
         have b1:((nl:Int) == 0)=true:=by rw [beq_iff_eq];omega
         have b1n:(nl == 0)=true:=by rw [beq_iff_eq];exact hB
         clear hB hN0 hA
         go_wp2_with (go_at_call 10;(with_reducible refine (HAW.out _ HB13.out).mono ?_);rintro e w14 ⟨rfl,hb⟩;have HB14:=hid (HB13.out.trans (hb.mono HB13.out.size));clear hb)
         go_ret
         exact ⟨rfl,HB14.out⟩
        ·by_cases hN2:32<nl
         ·have hB:=hN2
          clear hN2
          have a0:(lat == 0)=true:=by rw [beq_iff_eq];exact hA
          have b0:(gk == lat)=false:=by rw [beq_eq_false_iff_ne];exact hN0
          have b1:((nl:Int) == 0)=false:=by rw [beq_eq_false_iff_ne];omega
          have b1n:(nl == 0)=false:=by rw [beq_eq_false_iff_ne];exact hN1
          have b2:decide ((32:Int)<(nl:Int))=true:=by rw [decide_eq_true_iff];omega
          have b2n:32<nl:=hB
          clear hB hN0 hN1 hA
          go_wp2_with (go_at_call 10;(with_reducible refine (HAW.out _ HB13.out).mono ?_);rintro e w14 ⟨rfl,hb⟩;have HB14:=hid (HB13.out.trans (hb.mono HB13.out.size));clear hb)
          go_ret
          exact ⟨rfl,HB14.out⟩
         ·by_cases hN3:gk=4
          ·have hB:=hN3
           clear hN3
           have a0:(lat == 0)=true:=by rw [beq_iff_eq];exact hA
           have b0:(gk == lat)=false:=by rw [beq_eq_false_iff_ne];exact hN0
           have b1:((nl:Int) == 0)=false:=by rw [beq_eq_false_iff_ne];omega
           have b1n:(nl == 0)=false:=by rw [beq_eq_false_iff_ne];exact hN1
           have b2:decide ((32:Int)<(nl:Int))=false:=by rw [decide_eq_false_iff_not];omega
           have b2n:¬ 32<nl:=hN2
           have b3:(gk == 4)=true:=by rw [beq_iff_eq];exact hB
           clear hB hN0 hN1 hN2 hA
           go_wp2_with (go_at_call 10;(with_reducible refine (HAW.out _ HB13.out).mono ?_);rintro e w14 ⟨rfl,hb⟩;have HB14:=hid (HB13.out.trans (hb.mono HB13.out.size));clear hb)
           go_ret
           exact ⟨rfl,HB14.out⟩
          ·have hB:gk=8:=by
            rcases HOL.out.2 with e | e | e | e | e
            ·exact absurd e hN0
            ·exact absurd e hN1
            ·exact absurd e hN2
            ·exact absurd e hN3
            ·exact e
           have a0:(lat == 0)=true:=by rw [beq_iff_eq];exact hA
           have b0:(gk == lat)=false:=by rw [beq_eq_false_iff_ne];exact hN0
           have b1:((nl:Int) == 0)=false:=by rw [beq_eq_false_iff_ne];omega
           have b1n:(nl == 0)=false:=by rw [beq_eq_false_iff_ne];exact hN1
           have b2:decide ((32:Int)<(nl:Int))=false:=by rw [decide_eq_false_iff_not];omega
           have b2n:¬ 32<nl:=hN2
           have b3:(gk == 4)=false:=by rw [beq_eq_false_iff_ne];exact hN3
           have b4:(gk == 8)=true:=by rw [beq_iff_eq];exact hB
           clear hB hN0 hN1 hN2 hN3 hA
           go_wp2_with (go_at_call 10;(with_reducible refine (HAW.out _ HB13.out).mono ?_);rintro e w14 ⟨rfl,hb⟩;have HB14:=hid (HB13.out.trans (hb.mono HB13.out.size));clear hb)
           go_ret
           exact ⟨rfl,HB14.out⟩
      ·have hA:gk ≠ 0:=HOL.out.1.resolve_left hA0
       by_cases hN0:gk=lat
       ·have hB:=hN0
        clear hN0
        have a0:(lat == 0)=false:=by rw [beq_eq_false_iff_ne];exact hA0
        have a1:(gk == 0)=false:=by rw [beq_eq_false_iff_ne];exact hA
        have a2:(gk != 0)=true:=by rw [bne_iff_ne];exact hA
        have b0:(gk == lat)=true:=by rw [beq_iff_eq];exact hB
        clear hB  hA hA0
        go_wp2_with (go_at_call 10;(with_reducible refine (HAW.out _ HB13.out).mono ?_);rintro e w14 ⟨rfl,hb⟩;have HB14:=hid (HB13.out.trans (hb.mono HB13.out.size));clear hb)
        go_ret
        exact ⟨rfl,HB14.out⟩
       ·by_cases hN1:nl=0
        ·have hB:=hN1
         clear hN1
         have a0:(lat == 0)=false:=by rw [beq_eq_false_iff_ne];exact hA0
         have a1:(gk == 0)=false:=by rw [beq_eq_false_iff_ne];exact hA
         have a2:(gk != 0)=true:=by rw [bne_iff_ne];exact hA
         have b0:(gk == lat)=false:=by rw [beq_eq_false_iff_ne];exact hN0
         have b1:((nl:Int) == 0)=true:=by rw [beq_iff_eq];omega
         have b1n:(nl == 0)=true:=by rw [beq_iff_eq];exact hB
         clear hB hN0 hA hA0
         go_wp2_with (go_at_call 10;(with_reducible refine (HAW.out _ HB13.out).mono ?_);rintro e w14 ⟨rfl,hb⟩;have HB14:=hid (HB13.out.trans (hb.mono HB13.out.size));clear hb)
         go_ret
         exact ⟨rfl,HB14.out⟩
        ·by_cases hN2:32<nl
         ·have hB:=hN2
          clear hN2
          have a0:(lat == 0)=false:=by rw [beq_eq_false_iff_ne];exact hA0
          have a1:(gk == 0)=false:=by rw [beq_eq_false_iff_ne];exact hA
          have a2:(gk != 0)=true:=by rw [bne_iff_ne];exact hA
          have b0:(gk == lat)=false:=by rw [beq_eq_false_iff_ne];exact hN0
          have b1:((nl:Int) == 0)=false:=by rw [beq_eq_false_iff_ne];omega
          have b1n:(nl == 0)=false:=by rw [beq_eq_false_iff_ne];exact hN1
          have b2:decide ((32:Int)<(nl:Int))=true:=by rw [decide_eq_true_iff];omega
          have b2n:32<nl:=hB
          clear hB hN0 hN1 hA hA0
          go_wp2_with (go_at_call 10;(with_reducible refine (HAW.out _ HB13.out).mono ?_);rintro e w14 ⟨rfl,hb⟩;have HB14:=hid (HB13.out.trans (hb.mono HB13.out.size));clear hb)
          go_ret
          exact ⟨rfl,HB14.out⟩
         ·by_cases hN3:gk=4
          ·have hB:=hN3
           clear hN3
           have a0:(lat == 0)=false:=by rw [beq_eq_false_iff_ne];exact hA0
           have a1:(gk == 0)=false:=by rw [beq_eq_false_iff_ne];exact hA
           have a2:(gk != 0)=true:=by rw [bne_iff_ne];exact hA
           have b0:(gk == lat)=false:=by rw [beq_eq_false_iff_ne];exact hN0
           have b1:((nl:Int) == 0)=false:=by rw [beq_eq_false_iff_ne];omega
           have b1n:(nl == 0)=false:=by rw [beq_eq_false_iff_ne];exact hN1
           have b2:decide ((32:Int)<(nl:Int))=false:=by rw [decide_eq_false_iff_not];omega
           have b2n:¬ 32<nl:=hN2
           have b3:(gk == 4)=true:=by rw [beq_iff_eq];exact hB
           clear hB hN0 hN1 hN2 hA hA0
           go_wp2_with (go_at_call 10;(with_reducible refine (HAW.out _ HB13.out).mono ?_);rintro e w14 ⟨rfl,hb⟩;have HB14:=hid (HB13.out.trans (hb.mono HB13.out.size));clear hb)
           go_ret
           exact ⟨rfl,HB14.out⟩
          ·have hB:gk=8:=by
            rcases HOL.out.2 with e | e | e | e | e
            ·exact absurd e hN0
            ·exact absurd e hN1
            ·exact absurd e hN2
            ·exact absurd e hN3
            ·exact e
           have a0:(lat == 0)=false:=by rw [beq_eq_false_iff_ne];exact hA0
           have a1:(gk == 0)=false:=by rw [beq_eq_false_iff_ne];exact hA
           have a2:(gk != 0)=true:=by rw [bne_iff_ne];exact hA
           have b0:(gk == lat)=false:=by rw [beq_eq_false_iff_ne];exact hN0
           have b1:((nl:Int) == 0)=false:=by rw [beq_eq_false_iff_ne];omega
           have b1n:(nl == 0)=false:=by rw [beq_eq_false_iff_ne];exact hN1
           have b2:decide ((32:Int)<(nl:Int))=false:=by rw [decide_eq_false_iff_not];omega
           have b2n:¬ 32<nl:=hN2
           have b3:(gk == 4)=false:=by rw [beq_eq_false_iff_ne];exact hN3
           have b4:(gk == 8)=true:=by rw [beq_iff_eq];exact hB
           clear hB hN0 hN1 hN2 hN3 hA hA0
           go_wp2_with (go_at_call 10;(with_reducible refine (HAW.out _ HB13.out).mono ?_);rintro e w14 ⟨rfl,hb⟩;have HB14:=hid (HB13.out.trans (hb.mono HB13.out.size));clear hb)
           go_ret
           exact ⟨rfl,HB14.out⟩
end Go.Proofs.YtbijamcoibonkaaDoor
