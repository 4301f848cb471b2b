/-
 Policies copied and cut (the kit, law 28).
-/
import Derived.Test.YtbijamcoibonkaaDoorCSPoI
import Derived.Test.YtbijamcoibonkaaDoorCB29
import Derived.Deep.DeepCutAuto
namespace Go.Proofs.YtbijamcoibonkaaDoor
set_option linter.unusedSimpArgs false
set_option linter.unusedVariables false
open Go.RowKit Go.Shelf
attribute [local go_sem] Oper.semAt_some
theorem BxL.drJ {t:TypeId} {b:Nat} {cs:List Value} {W:World} (h:BxL t b cs W):BxL t b cs W.drew:=h
theorem GA.base {α:Type} {K:EK α} {B B' e:Nat} {w:World} {v:Value} {l:List α} (h:GA K B e w v l) (hB:B'≤B):GA K B' e w v l:=by
 obtain ⟨css,h1,h2⟩:=h.row
 refine ⟨⟨css,h1,h2.1,?_⟩⟩
 rcases h2.2 with h | ⟨g,cap,cur,h3,hb,h4⟩
 ·exact .inl h
 ·exact .inr ⟨g,cap,cur,h3,Nat.le_trans hB hb,h4⟩
theorem GA.own {α:Type} {K:EK α} {B e:Nat} {w w':World} {v:Value} {l:List α} (hK:∀ {R R':Nat→Prop} {w w':World} {cs:List Value} {x:α},K.E R w cs x→K.E R' w' cs x) (h:GA K B e w v l) (ho:∀ k,v.ownBlock=some k→w'.heap[k]?=w.heap[k]?):GA K B e w' v l:=by
 obtain ⟨css,h1,h2⟩:=h.row
 exact ⟨⟨css,⟨h1.1,fun i hi hi'=>hK (h1.2 i hi hi')⟩,owns_keepG h2 ho⟩⟩
structure PoG (B:Nat) (w:World) (a b c d:Value) (p:Po):Prop where
 lv:GA kStr B 9 w a p.lv
 od:GA kPair B 58 w b p.od
 ch:GA kBind B 31 w c p.ch
 st:GA kBind B 31 w d p.st
 ne:∀ k,c.ownBlock=some k→d.ownBlock ≠ some k
theorem GA.reads {α:Type} {K:EK α} {B e:Nat} {w:World} {v:Value} {l:List α} (hK:∀ {R R':Nat→Prop} {w w':World} {cs:List Value} {x:α},K.E R w cs x→K.E R' w' cs x) (h:GA K B e w v l) (hl:l.length≤140737488355328):SlG K (fun k=>B≤k∧k<w.heap.size) w v l:=by
 obtain ⟨css,h1,h2⟩:=h.row
 exact SlG.ofOwn ⟨h1.1,fun i hi hi'=>hK (h1.2 i hi hi')⟩ h2 hl fun k hk=>h2.lt k hk
theorem kS {R R':Nat→Prop} {w w':World} {cs:List Value} {x:Bs} (h:kStr.E R w cs x):kStr.E R' w' cs x:=h
theorem kP {R R':Nat→Prop} {w w':World} {cs:List Value} {x:Int × Int} (h:kPair.E R w cs x):kPair.E R' w' cs x:=h
theorem kB {R R':Nat→Prop} {w w':World} {cs:List Value} {x:Bs × Int} (h:kBind.E R w cs x):kBind.E R' w' cs x:=h
def LenPo (p:Po):Prop:=p.lv.length≤1000000000000∧p.od.length≤1000000000000∧p.ch.length≤1000000000000∧p.st.length≤1000000000000
theorem PoG.pov {B:Nat} {w:World} {a b c d:Value} {p:Po} (h:PoG B w a b c d p) (hl:LenPo p):PoV (fun k=>B≤k∧k<w.heap.size) w a b c d p :=
 ⟨h.lv.reads kS (Nat.le_trans hl.1 (by decide)),h.od.reads kP (Nat.le_trans hl.2.1 (by decide)),h.ch.reads kB (Nat.le_trans hl.2.2.1 (by decide)),h.st.reads kB (Nat.le_trans hl.2.2.2 (by decide))⟩
theorem PoG.own {B:Nat} {w w':World} {a b c d:Value} {p:Po} (h:PoG B w a b c d p) (hb:∀ k,B≤k→k<w.heap.size→w'.heap[k]?=w.heap[k]?):PoG B w' a b c d p :=
 ⟨h.lv.own kS fun k hk=>hb k (h.lv.lt k hk).1 (h.lv.lt k hk).2,h.od.own kP fun k hk=>hb k (h.od.lt k hk).1 (h.od.lt k hk).2,h.ch.own kB fun k hk=>hb k (h.ch.lt k hk).1 (h.ch.lt k hk).2,h.st.own kB fun k hk=>hb k (h.st.lt k hk).1 (h.st.lt k hk).2,h.ne⟩
theorem PoG.below {B:Nat} {w w':World} {a b c d:Value} {p:Po} (h:PoG B w a b c d p) (hb:Below w.heap.size w w'):PoG B w' a b c d p:=h.own fun k _ hk=>hb.block k hk
set_option maxRecDepth 100000 in
set_option maxHeartbeats 4000000 in
theorem copypo_any (p:Po) (a b c d:Value) (w:World) (hp:PoV (·<w.heap.size) w a b c d p) (hl:LenPo p) :
  Calls Tryd.prog 8 #[.agg (poL a b c d p).toArray] w fun e w'=>∃ qa xa qb xb qc xc qd xd,e = .returned (.agg (poL (.slice qa p.lv.length xa) (.slice qb p.od.length xb) (.slice qc p.ch.length xc) (.slice qd p.st.length xd) p).toArray)∧PoG (w.heap.size+2) w' (.slice qa p.lv.length xa) (.slice qb p.od.length xb) (.slice qc p.ch.length xc) (.slice qd p.st.length xd) p∧Below w.heap.size w w':=by
 obtain ⟨pa,ca,rfl⟩:=hp.1.slc
 obtain ⟨pb,cb,rfl⟩:=hp.2.1.slc
 obtain ⟨pc,cc,rfl⟩:=hp.2.2.1.slc
 obtain ⟨pd,cd,rfl⟩:=hp.2.2.2.slc
 have HL:=hid hl
 clear hl
 obtain ⟨nl,hnl⟩:∃ nl,p.lv.length=nl:=⟨_,rfl⟩
 obtain ⟨no,hno⟩:∃ no,p.od.length=no:=⟨_,rfl⟩
 obtain ⟨nc,hnc⟩:∃ nc,p.ch.length=nc:=⟨_,rfl⟩
 obtain ⟨ns,hns⟩:∃ ns,p.st.length=ns:=⟨_,rfl⟩
 rw [hnl,hno,hnc,hns] at hp ⊢
 have HPP:=hid hp;have HNa:=hid hnl;have HNb:=hid hno;have HNc:=hid hnc;have HNd:=hid hns
 clear hp hnl hno hnc hns
 go_enter Tryd.func8,Tryd.ntmps8
 go_upto_region 1 with fail
 obtain ⟨w2,hw2⟩:∃ W,(w.alloc (.cells #[.slice pa nl ca,.slice pb no cb,.slice pc nc cc,.slice pd ns cd,.bool p.sens,.int .i64 p.steps,.int .i64 p.paths,.int .i64 p.nodes,.int .i64 p.conf] 26)).alloc (.cells #[.slice none 0 0,.slice none 0 0,.slice none 0 0,.slice none 0 0,.bool false,.int .i64 0,.int .i64 0,.int .i64 0,.int .i64 0] 26)=W:=⟨_,rfl⟩
 have HX0:=hid (show BxL 26 w.heap.size [.slice pa nl ca,.slice pb no cb,.slice pc nc cc,.slice pd ns cd,.bool p.sens,.int .i64 p.steps,.int .i64 p.paths,.int .i64 p.nodes,.int .i64 p.conf] w2.drew from by rw [← hw2];exact (BxL.new _ _ _).al _)
 have HY0:=hid (show BxL 26 (w.heap.size+1) [.slice none 0 0,.slice none 0 0,.slice none 0 0,.slice none 0 0,.bool false,.int .i64 0,.int .i64 0,.int .i64 0,.int .i64 0] w2.drew from by rw [← hw2];have h9:=BxL.new 26 (w.alloc (.cells #[.slice pa nl ca,.slice pb no cb,.slice pc nc cc,.slice pd ns cd,.bool p.sens,.int .i64 p.steps,.int .i64 p.paths,.int .i64 p.nodes,.int .i64 p.conf] 26)) [.slice none 0 0,.slice none 0 0,.slice none 0 0,.slice none 0 0,.bool false,.int .i64 0,.int .i64 0,.int .i64 0,.int .i64 0];rw [World.size_alloc] at h9;exact h9)
 have HB0:=hid (show Below w.heap.size w w2.drew from by rw [← hw2];exact (((Below.refl _ _).alloc (Nat.le_refl _) _).alloc (by rw [World.size_alloc];omega) _).trans (Below.refl _ _).drew)
 have HZ0:=hid (show w2.drew.heap.size=w.heap.size+2 from by rw [← hw2];show ((w.alloc _).alloc _).heap.size=_;rw [World.size_alloc,World.size_alloc])
 have HP0:=hid (HPP.out.below HB0.out)
 rw [hw2]
 clear hw2
 have hS:(fun W=>W.cell? ⟨w.heap.size,0,none⟩=some (.slice pa nl ca)∧W.cell? ⟨w.heap.size,1,none⟩=some (.slice pb no cb)∧W.cell? ⟨w.heap.size,2,none⟩=some (.slice pc nc cc)∧W.cell? ⟨w.heap.size,3,none⟩=some (.slice pd ns cd)) w2.drew:=⟨HX0.out.at 0 rfl,HX0.out.at 1 rfl,HX0.out.at 2 rfl,HX0.out.at 3 rfl⟩
 have hFa:=fT
 refine rgN (fun W=>W.cell? ⟨w.heap.size,0,none⟩=some (.slice pa nl ca)∧W.cell? ⟨w.heap.size,1,none⟩=some (.slice pb no cb)∧W.cell? ⟨w.heap.size,2,none⟩=some (.slice pc nc cc)∧W.cell? ⟨w.heap.size,3,none⟩=some (.slice pd ns cd)) 13 (by kernel_rfl) ?_
 simp only [List.size_toArray,List.length_cons,List.length_nil,Nat.reduceAdd]
 iterate 2 (refine wpHJ_nx (v:=?_) 20 rfl rfl (by kernel_rfl) nE hS ?_ ?_;rotate_left;(focus refine Or.inl ⟨by rfl,?_⟩;rintro w' ⟨s0,s1,s2,s3⟩;go_simp;try rfl);simp only [Act.put,actP,actQ])
 iterate 2 (refine wpHJ_nx (v:=?_) 21 rfl rfl (by kernel_rfl) nE hS ?_ ?_;rotate_left;(focus refine Or.inl ⟨by rfl,?_⟩;rintro w' ⟨s0,s1,s2,s3⟩;go_simp;try rfl);simp only [Act.put,actP,actQ])
 iterate 2 (refine wpHJ_nx (v:=?_) 22 rfl rfl (by kernel_rfl) nE hS ?_ ?_;rotate_left;(focus refine Or.inl ⟨by rfl,?_⟩;rintro w' ⟨s0,s1,s2,s3⟩;go_simp;try rfl);simp only [Act.put,actP,actQ])
 iterate 2 (refine wpHJ_nx (v:=?_) 23 rfl rfl (by kernel_rfl) nE hS ?_ ?_;rotate_left;(focus refine Or.inl ⟨by rfl,?_⟩;rintro w' ⟨s0,s1,s2,s3⟩;go_simp;try rfl);simp only [Act.put,actP,actQ])
 refine wpHJ_only 2 (by kernel_rfl) rfl (fun K hK=>?_)
 go_simp
 (refine (callsIn_wide.2 (cp_strs p.lv _ _ HP0.out.1 HL.out.1)).mono ?_)
 rintro e wa ⟨u1,rfl,hg,hb⟩
 obtain ⟨qa,xa,e1⟩:=hg.slc
 rw [HNa.out] at e1
 subst e1
 have HG1:=hid hg
 have HW1:=hid hb
 have HB1:=hid (HB0.out.trans (hb.mono HB0.out.size))
 have HX1:=hid (HX0.out.bel hb)
 have HY1:=hid (HY0.out.bel hb)
 have HP1:=hid (HP0.out.below hb)
 have HZ1:=hid hb.size
 clear hg hb
 refine hK _ _ (.inr (.inr ⟨HX1.out.at 0 rfl,HX1.out.at 1 rfl,HX1.out.at 2 rfl,HX1.out.at 3 rfl⟩)) ?_
 clear hK K
 (refine wpHJ_nx (v:=?_) 23 rfl rfl (by kernel_rfl) nE ⟨HX1.out.at 0 rfl,HX1.out.at 1 rfl,HX1.out.at 2 rfl,HX1.out.at 3 rfl⟩ ?_ ?_;rotate_left;(focus refine Or.inl ⟨by rfl,?_⟩;rintro w' ⟨s0,s1,s2,s3⟩;go_simp;try rfl);simp only [Act.put,actP,actQ])
 refine wpHJ_only 5 (by kernel_rfl) rfl (fun K hK=>?_)
 go_simp
 (refine (callsIn_wide.2 (cp_pairs p.od _ _ HP1.out.2.1 HL.out.2.1)).mono ?_)
 rintro e wb ⟨u2,rfl,hg,hb⟩
 obtain ⟨qb,xb,e2⟩:=hg.slc
 rw [HNb.out] at e2
 subst e2
 have HG2:=hid hg
 have HW2:=hid hb
 have HB2:=hid (HB1.out.trans (hb.mono HB1.out.size))
 have HX2:=hid (HX1.out.bel hb)
 have HY2:=hid (HY1.out.bel hb)
 have HP2:=hid (HP1.out.below hb)
 have HZ2:=hid hb.size
 clear hg hb
 refine hK _ _ (.inr (.inr ⟨HX2.out.at 0 rfl,HX2.out.at 1 rfl,HX2.out.at 2 rfl,HX2.out.at 3 rfl⟩)) ?_
 clear hK K
 refine wpHJ_only 8 (by kernel_rfl) rfl (fun K hK=>?_)
 go_simp
 (refine (callsIn_wide.2 (cp_binds p.ch _ _ HP2.out.2.2.1 HL.out.2.2.1)).mono ?_)
 rintro e wc ⟨u3,rfl,hg,hb⟩
 obtain ⟨qc,xc,e3⟩:=hg.slc
 rw [HNc.out] at e3
 subst e3
 have HG3:=hid hg
 have HW3:=hid hb
 have HB3:=hid (HB2.out.trans (hb.mono HB2.out.size))
 have HX3:=hid (HX2.out.bel hb)
 have HY3:=hid (HY2.out.bel hb)
 have HP3:=hid (HP2.out.below hb)
 have HZ3:=hid hb.size
 clear hg hb
 refine hK _ _ (.inr (.inr ⟨HX3.out.at 0 rfl,HX3.out.at 1 rfl,HX3.out.at 2 rfl,HX3.out.at 3 rfl⟩)) ?_
 clear hK K
 refine wpHJ_only 11 (by kernel_rfl) rfl (fun K hK=>?_)
 go_simp
 (refine (callsIn_wide.2 (cp_binds p.st _ _ HP3.out.2.2.2 HL.out.2.2.2)).mono ?_)
 rintro e wd ⟨u4,rfl,hg,hb⟩
 obtain ⟨qd,xd,e4⟩:=hg.slc
 rw [HNd.out] at e4
 subst e4
 have HG4:=hid hg
 have HW4:=hid hb
 have HB4:=hid (HB3.out.trans (hb.mono HB3.out.size))
 have HX4:=hid (HX3.out.bel hb)
 have HY4:=hid (HY3.out.bel hb)
 have HP4:=hid (HP3.out.below hb)
 have HZ4:=hid hb.size
 clear hg hb
 have z0:(wd).cell? ⟨w.heap.size,0,none⟩=some (.slice pa nl ca):=HX4.out.at 0 rfl
 have zf0:(wd).frozen? ⟨w.heap.size,0,none⟩=false:=HX4.out.fr 0
 have z1:∀ u0,((wd).setCell ⟨w.heap.size,0,none⟩ u0).cell? ⟨w.heap.size,1,none⟩=some (.slice pb no cb):=fun u0=>(HX4.out.set 0 u0).at 1 rfl
 have zf1:∀ u0,((wd).setCell ⟨w.heap.size,0,none⟩ u0).frozen? ⟨w.heap.size,1,none⟩=false:=fun u0=>(HX4.out.set 0 u0).fr 1
 have z2:∀ u0 u1,(((wd).setCell ⟨w.heap.size,0,none⟩ u0).setCell ⟨w.heap.size,1,none⟩ u1).cell? ⟨w.heap.size,2,none⟩=some (.slice pc nc cc):=fun u0 u1=>((HX4.out.set 0 u0).set 1 u1).at 2 rfl
 have zf2:∀ u0 u1,(((wd).setCell ⟨w.heap.size,0,none⟩ u0).setCell ⟨w.heap.size,1,none⟩ u1).frozen? ⟨w.heap.size,2,none⟩=false:=fun u0 u1=>((HX4.out.set 0 u0).set 1 u1).fr 2
 have z3:∀ u0 u1 u2,((((wd).setCell ⟨w.heap.size,0,none⟩ u0).setCell ⟨w.heap.size,1,none⟩ u1).setCell ⟨w.heap.size,2,none⟩ u2).cell? ⟨w.heap.size,3,none⟩=some (.slice pd ns cd):=fun u0 u1 u2=>(((HX4.out.set 0 u0).set 1 u1).set 2 u2).at 3 rfl
 have zf3:∀ u0 u1 u2,((((wd).setCell ⟨w.heap.size,0,none⟩ u0).setCell ⟨w.heap.size,1,none⟩ u1).setCell ⟨w.heap.size,2,none⟩ u2).frozen? ⟨w.heap.size,3,none⟩=false:=fun u0 u1 u2=>(((HX4.out.set 0 u0).set 1 u1).set 2 u2).fr 3
 refine hK _ _ (.inr (.inr ⟨HX4.out.at 0 rfl,HX4.out.at 1 rfl,HX4.out.at 2 rfl,HX4.out.at 3 rfl⟩)) ?_
 clear hK K
 refine wpHJ_only 13 (by kernel_rfl) rfl (fun K hK=>?_)
 go_simp
 refine hK _ _ (.inl rfl) ?_
 clear hK K
 (refine wpHJ_np (v:=?_) 20 rfl rfl (by kernel_rfl) nE (.inl rfl) ?_ ?_;rotate_left;(focus refine Or.inl ⟨by rfl,?_⟩;rintro w' _;go_simp;try rfl);simp only [Act.put,actP,actQ])
 refine wpHJ_only 15 (by kernel_rfl) rfl (fun K hK=>?_)
 go_simp
 refine hK _ _ (.inr (.inl rfl)) ?_
 clear hK K
 (refine wpHJ_np (v:=?_) 20 rfl rfl (by kernel_rfl) nE (.inl rfl) ?_ ?_;rotate_left;(focus refine Or.inl ⟨by rfl,?_⟩;rintro w' _;go_simp;try rfl);simp only [Act.put,actP,actQ])
 refine wpHJ_only 17 (by kernel_rfl) rfl (fun K hK=>?_)
 go_simp
 refine hK _ _ (.inr (.inl rfl)) ?_
 clear hK K
 (refine wpHJ_np (v:=?_) 20 rfl rfl (by kernel_rfl) nE (.inl rfl) ?_ ?_;rotate_left;(focus refine Or.inl ⟨by rfl,?_⟩;rintro w' _;go_simp;try rfl);simp only [Act.put,actP,actQ])
 refine wpHJ_only 19 (by kernel_rfl) rfl (fun K hK=>?_)
 go_simp
 refine hK _ _ (.inr (.inl rfl)) ?_
 clear hK K
 refine wpHJ_done (by kernel_rfl) ?_ _
 simp only [onlyN,Exit.then]
 clear hFa
 clear hS z0 zf0 z1 zf1 z2 zf2 z3 zf3
 obtain ⟨w8,hw8⟩:∃ W,((((wd).setCell ⟨w.heap.size,0,none⟩ (.slice qa nl xa)).setCell ⟨w.heap.size,1,none⟩ (.slice qb no xb)).setCell ⟨w.heap.size,2,none⟩ (.slice qc nc xc)).setCell ⟨w.heap.size,3,none⟩ (.slice qd ns xd)=W:=⟨_,rfl⟩
 have hx8:BxL 26 w.heap.size [.slice qa nl xa,.slice qb no xb,.slice qc nc xc,.slice qd ns xd,.bool p.sens,.int .i64 p.steps,.int .i64 p.paths,.int .i64 p.nodes,.int .i64 p.conf] w8:=by rw [← hw8];exact ((((HX4.out.set 0 (.slice qa nl xa)).set 1 (.slice qb no xb)).set 2 (.slice qc nc xc)).set 3 (.slice qd ns xd))
 have hk8:∀ j,j ≠ w.heap.size→w8.heap[j]?=wd.heap[j]?:=fun j h=>by rw [← hw8,heap_ot h,heap_ot h,heap_ot h,heap_ot h]
 have hy8:BxL 26 (w.heap.size+1) [.slice none 0 0,.slice none 0 0,.slice none 0 0,.slice none 0 0,.bool false,.int .i64 0,.int .i64 0,.int .i64 0,.int .i64 0] w8:=HY4.out.keep (hk8 _ (by omega))
 have HB8:=hid (show Below w.heap.size w w8 from by rw [← hw8];exact ((((HB4.out.setCell (p:=⟨w.heap.size,0,none⟩) (Nat.le_refl _) _).setCell (p:=⟨w.heap.size,1,none⟩) (Nat.le_refl _) _).setCell (p:=⟨w.heap.size,2,none⟩) (Nat.le_refl _) _).setCell (p:=⟨w.heap.size,3,none⟩) (Nat.le_refl _) _))
 have HS8:=hid (show w8.heap.size=wd.heap.size from by rw [← hw8];simp only [World.size_setCell])
 have HK8:=hid hk8;have HY8:=hid hy8
 rw [hw8]
 clear hw8 hk8
 have x0:w8.cell? ⟨w.heap.size,0,none⟩=some (.slice qa nl xa):=hx8.at 0 rfl
 have x1:w8.cell? ⟨w.heap.size,1,none⟩=some (.slice qb no xb):=hx8.at 1 rfl
 have x2:w8.cell? ⟨w.heap.size,2,none⟩=some (.slice qc nc xc):=hx8.at 2 rfl
 have x3:w8.cell? ⟨w.heap.size,3,none⟩=some (.slice qd ns xd):=hx8.at 3 rfl
 have x4:w8.cell? ⟨w.heap.size,4,none⟩=some (.bool p.sens):=hx8.at 4 rfl
 have x5:w8.cell? ⟨w.heap.size,5,none⟩=some (.int .i64 p.steps):=hx8.at 5 rfl
 have x6:w8.cell? ⟨w.heap.size,6,none⟩=some (.int .i64 p.paths):=hx8.at 6 rfl
 have x7:w8.cell? ⟨w.heap.size,7,none⟩=some (.int .i64 p.nodes):=hx8.at 7 rfl
 have x8:w8.cell? ⟨w.heap.size,8,none⟩=some (.int .i64 p.conf):=hx8.at 8 rfl
 have y0:w8.cell? ⟨w.heap.size+1,0,none⟩=some (.slice none 0 0):=hy8.at 0 rfl
 have y1:w8.cell? ⟨w.heap.size+1,1,none⟩=some (.slice none 0 0):=hy8.at 1 rfl
 have y2:w8.cell? ⟨w.heap.size+1,2,none⟩=some (.slice none 0 0):=hy8.at 2 rfl
 have y3:w8.cell? ⟨w.heap.size+1,3,none⟩=some (.slice none 0 0):=hy8.at 3 rfl
 have y4:w8.cell? ⟨w.heap.size+1,4,none⟩=some (.bool false):=hy8.at 4 rfl
 have y5:w8.cell? ⟨w.heap.size+1,5,none⟩=some (.int .i64 0):=hy8.at 5 rfl
 have y6:w8.cell? ⟨w.heap.size+1,6,none⟩=some (.int .i64 0):=hy8.at 6 rfl
 have y7:w8.cell? ⟨w.heap.size+1,7,none⟩=some (.int .i64 0):=hy8.at 7 rfl
 have y8:w8.cell? ⟨w.heap.size+1,8,none⟩=some (.int .i64 0):=hy8.at 8 rfl
 have g0:w8.frozen? ⟨w.heap.size+1,0,none⟩=false:=hy8.fr 0
 have g1:w8.frozen? ⟨w.heap.size+1,1,none⟩=false:=hy8.fr 1
 have g2:w8.frozen? ⟨w.heap.size+1,2,none⟩=false:=hy8.fr 2
 have g3:w8.frozen? ⟨w.heap.size+1,3,none⟩=false:=hy8.fr 3
 have g4:w8.frozen? ⟨w.heap.size+1,4,none⟩=false:=hy8.fr 4
 have g5:w8.frozen? ⟨w.heap.size+1,5,none⟩=false:=hy8.fr 5
 have g6:w8.frozen? ⟨w.heap.size+1,6,none⟩=false:=hy8.fr 6
 have g7:w8.frozen? ⟨w.heap.size+1,7,none⟩=false:=hy8.fr 7
 have g8:w8.frozen? ⟨w.heap.size+1,8,none⟩=false:=hy8.fr 8
 clear hx8 hy8
 go_wp2_with fail
 clear x0 y0 g0 x1 y1 g1 x2 y2 g2 x3 y3 g3 x4 y4 g4 x5 y5 g5 x6 y6 g6 x7 y7 g7 x8 y8 g8
 obtain ⟨wq,hwq⟩:∃ W,(((((((((w8).setCell ⟨w.heap.size+1,0,none⟩ (.slice qa nl xa)).setCell ⟨w.heap.size+1,1,none⟩ (.slice qb no xb)).setCell ⟨w.heap.size+1,2,none⟩ (.slice qc nc xc)).setCell ⟨w.heap.size+1,3,none⟩ (.slice qd ns xd)).setCell ⟨w.heap.size+1,4,none⟩ (.bool p.sens)).setCell ⟨w.heap.size+1,5,none⟩ (.int .i64 p.steps)).setCell ⟨w.heap.size+1,6,none⟩ (.int .i64 p.paths)).setCell ⟨w.heap.size+1,7,none⟩ (.int .i64 p.nodes)).setCell ⟨w.heap.size+1,8,none⟩ (.int .i64 p.conf)=W:=⟨_,rfl⟩
 rw [hwq]
 have hyq:BxL 26 (w.heap.size+1) [.slice qa nl xa,.slice qb no xb,.slice qc nc xc,.slice qd ns xd,.bool p.sens,.int .i64 p.steps,.int .i64 p.paths,.int .i64 p.nodes,.int .i64 p.conf] wq:=by rw [← hwq];exact (((((((((HY8.out.set 0 (.slice qa nl xa)).set 1 (.slice qb no xb)).set 2 (.slice qc nc xc)).set 3 (.slice qd ns xd)).set 4 (.bool p.sens)).set 5 (.int .i64 p.steps)).set 6 (.int .i64 p.paths)).set 7 (.int .i64 p.nodes)).set 8 (.int .i64 p.conf))
 have hkq:∀ j,j ≠ w.heap.size→j ≠ w.heap.size+1→wq.heap[j]?=wd.heap[j]?:=fun j h1 h2=>by rw [← hwq,heap_ot h2,heap_ot h2,heap_ot h2,heap_ot h2,heap_ot h2,heap_ot h2,heap_ot h2,heap_ot h2,heap_ot h2];exact HK8.out j h1
 have hsq:wq.heap.size=wd.heap.size:=by rw [← hwq];simp only [World.size_setCell];exact HS8.out
 have hbq:Below w.heap.size w wq:=by
  rw [← hwq]
  exact (((((((((HB8.out.setCell (p:=⟨w.heap.size+1,0,none⟩) (Nat.le_succ _) _).setCell (p:=⟨w.heap.size+1,1,none⟩) (Nat.le_succ _) _).setCell (p:=⟨w.heap.size+1,2,none⟩) (Nat.le_succ _) _).setCell (p:=⟨w.heap.size+1,3,none⟩) (Nat.le_succ _) _).setCell (p:=⟨w.heap.size+1,4,none⟩) (Nat.le_succ _) _).setCell (p:=⟨w.heap.size+1,5,none⟩) (Nat.le_succ _) _).setCell (p:=⟨w.heap.size+1,6,none⟩) (Nat.le_succ _) _).setCell (p:=⟨w.heap.size+1,7,none⟩) (Nat.le_succ _) _).setCell (p:=⟨w.heap.size+1,8,none⟩) (Nat.le_succ _) _)
 have r0:wq.cell? ⟨w.heap.size+1,0,none⟩=some (.slice qa nl xa):=hyq.at 0 rfl
 have r1:wq.cell? ⟨w.heap.size+1,1,none⟩=some (.slice qb no xb):=hyq.at 1 rfl
 have r2:wq.cell? ⟨w.heap.size+1,2,none⟩=some (.slice qc nc xc):=hyq.at 2 rfl
 have r3:wq.cell? ⟨w.heap.size+1,3,none⟩=some (.slice qd ns xd):=hyq.at 3 rfl
 have r4:wq.cell? ⟨w.heap.size+1,4,none⟩=some (.bool p.sens):=hyq.at 4 rfl
 have r5:wq.cell? ⟨w.heap.size+1,5,none⟩=some (.int .i64 p.steps):=hyq.at 5 rfl
 have r6:wq.cell? ⟨w.heap.size+1,6,none⟩=some (.int .i64 p.paths):=hyq.at 6 rfl
 have r7:wq.cell? ⟨w.heap.size+1,7,none⟩=some (.int .i64 p.nodes):=hyq.at 7 rfl
 have r8:wq.cell? ⟨w.heap.size+1,8,none⟩=some (.int .i64 p.conf):=hyq.at 8 rfl
 clear hwq hyq
 refine bodyPost_ret (v := .agg #[.slice qa nl xa,.slice qb no xb,.slice qc nc xc,.slice qd ns xd,.bool p.sens,.int .i64 p.steps,.int .i64 p.paths,.int .i64 p.nodes,.int .i64 p.conf]) (by simp [results,Tryd.results8,go_sem,r0,r1,r2,r3,r4,r5,r6,r7,r8]) rfl ?_
 have h0:=HZ0.out;have h1:=HZ1.out;have h2:=HZ2.out;have h3:=HZ3.out;have h4:=HZ4.out
 refine ⟨_,_,_,_,_,_,_,_,rfl,?_,hbq⟩
 have hm:∀ k,w.heap.size+2≤k→wq.heap[k]?=wd.heap[k]?:=fun k hk=>hkq k (by omega) (by omega)
 refine ⟨?_,?_,?_,?_,?_⟩
 ·exact (HG1.out.base (by omega)).own kS fun k hk=>by
   have:=HG1.out.lt k hk
   rw [hm k (by omega),HW4.out.block k (by omega),HW3.out.block k (by omega),HW2.out.block k (by omega)]
 ·exact (HG2.out.base (by omega)).own kP fun k hk=>by
   have:=HG2.out.lt k hk
   rw [hm k (by omega),HW4.out.block k (by omega),HW3.out.block k (by omega)]
 ·exact (HG3.out.base (by omega)).own kB fun k hk=>by
   have:=HG3.out.lt k hk
   rw [hm k (by omega),HW4.out.block k (by omega)]
 ·exact (HG4.out.base (by omega)).own kB fun k hk=>by
   have:=HG4.out.lt k hk
   exact hm k (by omega)
 ·intro k hk hk'
  have a1:=HG3.out.lt k hk
  have a2:=HG4.out.lt k hk'
  omega
def fewPo (p:Po):Po:={ p with lv:=p.lv.take 34,od:=p.od.take 1100,ch:=p.ch.take 34,st:=p.st.take 34 }
theorem few_lenPo (p:Po):LenPo (fewPo p):=by
 refine ⟨?_,?_,?_,?_⟩
 ·show (p.lv.take 34).length≤_;rw [List.length_take];omega
 ·show (p.od.take 1100).length≤_;rw [List.length_take];omega
 ·show (p.ch.take 34).length≤_;rw [List.length_take];omega
 ·show (p.st.take 34).length≤_;rw [List.length_take];omega
theorem take_minP {α:Type} (l:List α) (n:Nat):l.take (min l.length n)=l.take n:=by
 rcases Nat.le_total l.length n with h | h
 ·rw [Nat.min_eq_left h,List.take_length,List.take_of_length_le h]
 ·rw [Nat.min_eq_right h]
set_option maxRecDepth 100000 in
set_option maxHeartbeats 4000000 in
theorem few_po (p:Po) (a b c d:Value) (w:World) (hp:PoV (·<w.heap.size) w a b c d p) :
  Calls Tryd.prog 6 #[.agg (poL a b c d p).toArray] w fun e w'=>∃ qa xa qb xb qc xc qd xd,e = .returned (.agg (poL (.slice qa (fewPo p).lv.length xa) (.slice qb (fewPo p).od.length xb) (.slice qc (fewPo p).ch.length xc) (.slice qd (fewPo p).st.length xd) p).toArray)∧PoG (w.heap.size+2) w' (.slice qa (fewPo p).lv.length xa) (.slice qb (fewPo p).od.length xb) (.slice qc (fewPo p).ch.length xc) (.slice qd (fewPo p).st.length xd) (fewPo p)∧Below w.heap.size w w':=by
 obtain ⟨pa,ca,rfl⟩:=hp.1.slc
 obtain ⟨pb,cb,rfl⟩:=hp.2.1.slc
 obtain ⟨pc,cc,rfl⟩:=hp.2.2.1.slc
 obtain ⟨pd,cd,rfl⟩:=hp.2.2.2.slc
 have ha1:=hp.1.cap.1;have hb1:=hp.2.1.cap.1;have hc1:=hp.2.2.1.cap.1;have hd1:=hp.2.2.2.cap.1
 obtain ⟨ml,hml⟩:∃ m,min p.lv.length 34=m:=⟨_,rfl⟩
 obtain ⟨mo,hmo⟩:∃ m,min p.od.length 1100=m:=⟨_,rfl⟩
 obtain ⟨mc,hmc⟩:∃ m,min p.ch.length 34=m:=⟨_,rfl⟩
 obtain ⟨ms,hms⟩:∃ m,min p.st.length 34=m:=⟨_,rfl⟩
 have hq:PoV (·<w.heap.size) w (.slice pa ml ca) (.slice pb mo cb) (.slice pc mc cc) (.slice pd ms cd) (fewPo p):=by
  refine ⟨?_,?_,?_,?_⟩
  ·have:=hp.1.cut ml (by omega);rw [← hml,take_minP,hml] at this;exact this
  ·have:=hp.2.1.cut mo (by omega);rw [← hmo,take_minP,hmo] at this;exact this
  ·have:=hp.2.2.1.cut mc (by omega);rw [← hmc,take_minP,hmc] at this;exact this
  ·have:=hp.2.2.2.cut ms (by omega);rw [← hms,take_minP,hms] at this;exact this
 have HQ:=hid hq
 have eL:(fewPo p).lv.length=ml:=by show (p.lv.take 34).length=_;rw [List.length_take];omega
 have eO:(fewPo p).od.length=mo:=by show (p.od.take 1100).length=_;rw [List.length_take];omega
 have eC:(fewPo p).ch.length=mc:=by show (p.ch.take 34).length=_;rw [List.length_take];omega
 have eS:(fewPo p).st.length=ms:=by show (p.st.take 34).length=_;rw [List.length_take];omega
 rw [eL,eO,eC,eS]
 have HLL:=hid (few_lenPo p)
 have HE:=hid (And.intro eL (And.intro eO (And.intro eC eS)))
 have HFS:=hid (show (fewPo p).sens=p.sens∧(fewPo p).steps=p.steps∧(fewPo p).paths=p.paths∧(fewPo p).nodes=p.nodes∧(fewPo p).conf=p.conf from ⟨rfl,rfl,rfl,rfl,rfl⟩)
 obtain ⟨nl,hnl⟩:∃ nl,p.lv.length=nl:=⟨_,rfl⟩
 obtain ⟨no,hno⟩:∃ no,p.od.length=no:=⟨_,rfl⟩
 obtain ⟨nc,hnc⟩:∃ nc,p.ch.length=nc:=⟨_,rfl⟩
 obtain ⟨ns,hns⟩:∃ ns,p.st.length=ns:=⟨_,rfl⟩
 rw [hnl] at ha1 hml
 rw [hno] at hb1 hmo
 rw [hnc] at hc1 hmc
 rw [hns] at hd1 hms
 rw [hnl,hno,hnc,hns]
 have m1:min (nl:Int) 34=(ml:Int):=by omega
 have m2:min (no:Int) 1100=(mo:Int):=by omega
 have m3:min (nc:Int) 34=(mc:Int):=by omega
 have m4:min (ns:Int) 34=(ms:Int):=by omega
 have k1:ml≤ca:=by omega
 have k2:mo≤cb:=by omega
 have k3:mc≤cc:=by omega
 have k4:ms≤cd:=by omega
 clear hml hmo hmc hms hnl hno hnc hns hq eL eO eC eS hp
 obtain ⟨q,hq⟩:∃ q,fewPo p=q:=⟨_,rfl⟩
 rw [hq] at HQ HLL HE HFS ⊢
 clear hq
 go_enter Tryd.func6,Tryd.ntmps6
 go_upto_region 1 with fail
 obtain ⟨w2,hw2⟩:∃ W,(w.alloc (.cells #[.slice pa nl ca,.slice pb no cb,.slice pc nc cc,.slice pd ns cd,.bool p.sens,.int .i64 p.steps,.int .i64 p.paths,.int .i64 p.nodes,.int .i64 p.conf] 26)).alloc (.cells #[.slice none 0 0,.slice none 0 0,.slice none 0 0,.slice none 0 0,.bool false,.int .i64 0,.int .i64 0,.int .i64 0,.int .i64 0] 26)=W:=⟨_,rfl⟩
 have HX0:=hid (show BxL 26 w.heap.size [.slice pa nl ca,.slice pb no cb,.slice pc nc cc,.slice pd ns cd,.bool p.sens,.int .i64 p.steps,.int .i64 p.paths,.int .i64 p.nodes,.int .i64 p.conf] w2.drew from by rw [← hw2];exact (BxL.new _ _ _).al _)
 have HY0:=hid (show BxL 26 (w.heap.size+1) [.slice none 0 0,.slice none 0 0,.slice none 0 0,.slice none 0 0,.bool false,.int .i64 0,.int .i64 0,.int .i64 0,.int .i64 0] w2.drew from by rw [← hw2];have h9:=BxL.new 26 (w.alloc (.cells #[.slice pa nl ca,.slice pb no cb,.slice pc nc cc,.slice pd ns cd,.bool p.sens,.int .i64 p.steps,.int .i64 p.paths,.int .i64 p.nodes,.int .i64 p.conf] 26)) [.slice none 0 0,.slice none 0 0,.slice none 0 0,.slice none 0 0,.bool false,.int .i64 0,.int .i64 0,.int .i64 0,.int .i64 0];rw [World.size_alloc] at h9;exact h9)
 have HB0:=hid (show Below w.heap.size w w2.drew from by rw [← hw2];exact (((Below.refl _ _).alloc (Nat.le_refl _) _).alloc (by rw [World.size_alloc];omega) _).trans (Below.refl _ _).drew)
 have HBp:=hid (show Below w.heap.size w w2 from by rw [← hw2];exact ((Below.refl _ _).alloc (Nat.le_refl _) _).alloc (by rw [World.size_alloc];omega) _)
 have HZ0:=hid (show w2.drew.heap.size=w.heap.size+2 from by rw [← hw2];show ((w.alloc _).alloc _).heap.size=_;rw [World.size_alloc,World.size_alloc])
 rw [hw2]
 clear hw2
 have hS:(fun W=>W.cell? ⟨w.heap.size,0,none⟩=some (.slice pa nl ca)∧W.cell? ⟨w.heap.size,1,none⟩=some (.slice pb no cb)) w2.drew:=⟨HX0.out.at 0 rfl,HX0.out.at 1 rfl⟩
 have hxu:BxL 26 w.heap.size [.slice pa nl ca,.slice pb no cb,.slice pc nc cc,.slice pd ns cd,.bool p.sens,.int .i64 p.steps,.int .i64 p.paths,.int .i64 p.nodes,.int .i64 p.conf] w2:=HX0.out
 obtain ⟨n0,n1⟩:=hxu.p2
 have f0:w2.frozen? ⟨w.heap.size,0,none⟩=false:=hxu.fr 0
 have f1:w2.frozen? ⟨w.heap.size,1,none⟩=false:=hxu.fr 1
 have z0:(w2.drew).cell? ⟨w.heap.size,0,none⟩=some (.slice pa nl ca):=HX0.out.at 0 rfl
 have zf0:(w2.drew).frozen? ⟨w.heap.size,0,none⟩=false:=HX0.out.fr 0
 have z1:∀ u0,((w2.drew).setCell ⟨w.heap.size,0,none⟩ u0).cell? ⟨w.heap.size,1,none⟩=some (.slice pb no cb):=fun u0=>(HX0.out.set 0 u0).at 1 rfl
 have zf1:∀ u0,((w2.drew).setCell ⟨w.heap.size,0,none⟩ u0).frozen? ⟨w.heap.size,1,none⟩=false:=fun u0=>(HX0.out.set 0 u0).fr 1
 have hFa:=fT
 refine rgN (fun W=>W.cell? ⟨w.heap.size,0,none⟩=some (.slice pa nl ca)∧W.cell? ⟨w.heap.size,1,none⟩=some (.slice pb no cb)) 15 (by kernel_rfl) ?_
 simp only [List.size_toArray,List.length_cons,List.length_nil,Nat.reduceAdd]
 iterate 11 (refine wpHJ_nx (v:=?_) 18 rfl rfl (by kernel_rfl) nE hS ?_ ?_;rotate_left;(focus refine Or.inl ⟨by rfl,?_⟩;rintro w' ⟨s0,s1⟩;go_simp;try rfl);simp only [Act.put,actP,actQ])
 iterate 3 (refine wpHJ_np (v:=?_) 18 rfl rfl (by kernel_rfl) nE (.inr hS) ?_ ?_;rotate_left;(focus refine Or.inl ⟨by rfl,?_⟩;rintro w' _;go_simp;try rfl);simp only [Act.put,actP,actQ])
 (refine wpHJ_nx (v:=?_) 18 rfl rfl (by kernel_rfl) nE hS ?_ ?_;rotate_left;(focus refine Or.inl ⟨by rfl,?_⟩;rintro w' ⟨s0,s1⟩;go_simp;try rfl);simp only [Act.put,actP,actQ])
 refine wpHJ_only 15 (by kernel_rfl) rfl (fun K hK=>?_)
 go_simp
 refine hK _ _ (.inl rfl) ?_
 clear hK K
 (refine wpHJ_np (v:=?_) 18 rfl rfl (by kernel_rfl) nE (.inl rfl) ?_ ?_;rotate_left;(focus refine Or.inl ⟨by rfl,?_⟩;rintro w' _;go_simp;try rfl);simp only [Act.put,actP,actQ])
 refine wpHJ_only 17 (by kernel_rfl) rfl (fun K hK=>?_)
 go_simp
 refine hK _ _ (.inr (.inl rfl)) ?_
 clear hK K
 refine wpHJ_done (by kernel_rfl) ?_ _
 simp only [onlyN,Exit.then]
 clear hFa
 clear hS z0 zf0 z1 zf1 n0 n1 f0 f1 hxu
 have hx0:BxL 26 w.heap.size [.slice pa nl ca,.slice pb no cb,.slice pc nc cc,.slice pd ns cd,.bool p.sens,.int .i64 p.steps,.int .i64 p.paths,.int .i64 p.nodes,.int .i64 p.conf] w2:=HX0.out
 have hb0:Below w.heap.size w w2:=HBp.out
 obtain ⟨w3,hw3⟩:∃ W,(((w2).setCell ⟨w.heap.size,0,none⟩ (.slice pa ml ca)).setCell ⟨w.heap.size,1,none⟩ (.slice pb mo cb)).drew=W:=⟨_,rfl⟩
 have HX3:=hid (show BxL 26 w.heap.size [.slice pa ml ca,.slice pb mo cb,.slice pc nc cc,.slice pd ns cd,.bool p.sens,.int .i64 p.steps,.int .i64 p.paths,.int .i64 p.nodes,.int .i64 p.conf] w3 from by rw [← hw3];exact ((hx0.set 0 (.slice pa ml ca)).set 1 (.slice pb mo cb)).drJ)
 have hk3:∀ j,j ≠ w.heap.size→w3.heap[j]?=w2.heap[j]?:=fun j h=>by rw [← hw3];show (World.setCell _ _ _).heap[j]?=_;rw [heap_ot h,heap_ot h]
 have HY3:=hid (show BxL 26 (w.heap.size+1) [.slice none 0 0,.slice none 0 0,.slice none 0 0,.slice none 0 0,.bool false,.int .i64 0,.int .i64 0,.int .i64 0,.int .i64 0] w3 from HY0.out.keep (hk3 _ (by omega)))
 have HB3:=hid (show Below w.heap.size w w3 from by rw [← hw3];exact ((hb0.setCell (p:=⟨w.heap.size,0,none⟩) (Nat.le_refl _) _).setCell (p:=⟨w.heap.size,1,none⟩) (Nat.le_refl _) _).drew)
 have HZ3:=hid (show w3.heap.size=w.heap.size+2 from by rw [← hw3];show (World.setCell _ _ _).heap.size=_;rw [World.size_setCell,World.size_setCell];exact HZ0.out)
 rw [hw3]
 clear hw3 hk3 hx0 hb0
 go_upto_region 2 with fail
 have hS:(fun W=>W.cell? ⟨w.heap.size,2,none⟩=some (.slice pc nc cc)∧W.cell? ⟨w.heap.size,3,none⟩=some (.slice pd ns cd)) w3.drew:=⟨HX3.out.at 2 rfl,HX3.out.at 3 rfl⟩
 have n2:w3.cell? ⟨w.heap.size,2,none⟩=some (.slice pc nc cc):=HX3.out.at 2 rfl
 have n3:w3.cell? ⟨w.heap.size,3,none⟩=some (.slice pd ns cd):=HX3.out.at 3 rfl
 have f2:w3.frozen? ⟨w.heap.size,2,none⟩=false:=HX3.out.fr 2
 have f3:w3.frozen? ⟨w.heap.size,3,none⟩=false:=HX3.out.fr 3
 have z2:(w3.drew).cell? ⟨w.heap.size,2,none⟩=some (.slice pc nc cc):=HX3.out.drJ.at 2 rfl
 have zf2:(w3.drew).frozen? ⟨w.heap.size,2,none⟩=false:=HX3.out.drJ.fr 2
 have z3:∀ u0,((w3.drew).setCell ⟨w.heap.size,2,none⟩ u0).cell? ⟨w.heap.size,3,none⟩=some (.slice pd ns cd):=fun u0=>(HX3.out.drJ.set 2 u0).at 3 rfl
 have zf3:∀ u0,((w3.drew).setCell ⟨w.heap.size,2,none⟩ u0).frozen? ⟨w.heap.size,3,none⟩=false:=fun u0=>(HX3.out.drJ.set 2 u0).fr 3
 have hFa:=fT
 refine rgN (fun W=>W.cell? ⟨w.heap.size,2,none⟩=some (.slice pc nc cc)∧W.cell? ⟨w.heap.size,3,none⟩=some (.slice pd ns cd)) 15 (by kernel_rfl) ?_
 simp only [List.size_toArray,List.length_cons,List.length_nil,Nat.reduceAdd]
 iterate 11 (refine wpHJ_nx (v:=?_) 18 rfl rfl (by kernel_rfl) nE hS ?_ ?_;rotate_left;(focus refine Or.inl ⟨by rfl,?_⟩;rintro w' ⟨s0,s1⟩;go_simp;try rfl);simp only [Act.put,actP,actQ])
 iterate 3 (refine wpHJ_np (v:=?_) 18 rfl rfl (by kernel_rfl) nE (.inr hS) ?_ ?_;rotate_left;(focus refine Or.inl ⟨by rfl,?_⟩;rintro w' _;go_simp;try rfl);simp only [Act.put,actP,actQ])
 (refine wpHJ_nx (v:=?_) 18 rfl rfl (by kernel_rfl) nE hS ?_ ?_;rotate_left;(focus refine Or.inl ⟨by rfl,?_⟩;rintro w' ⟨s0,s1⟩;go_simp;try rfl);simp only [Act.put,actP,actQ])
 refine wpHJ_only 15 (by kernel_rfl) rfl (fun K hK=>?_)
 go_simp
 refine hK _ _ (.inl rfl) ?_
 clear hK K
 (refine wpHJ_np (v:=?_) 18 rfl rfl (by kernel_rfl) nE (.inl rfl) ?_ ?_;rotate_left;(focus refine Or.inl ⟨by rfl,?_⟩;rintro w' _;go_simp;try rfl);simp only [Act.put,actP,actQ])
 refine wpHJ_only 17 (by kernel_rfl) rfl (fun K hK=>?_)
 go_simp
 refine hK _ _ (.inr (.inl rfl)) ?_
 clear hK K
 refine wpHJ_done (by kernel_rfl) ?_ _
 simp only [onlyN,Exit.then]
 clear hFa
 clear hS z2 zf2 z3 zf3 n2 n3 f2 f3
 obtain ⟨w5,hw5⟩:∃ W,(((w3).setCell ⟨w.heap.size,2,none⟩ (.slice pc mc cc)).setCell ⟨w.heap.size,3,none⟩ (.slice pd ms cd)).drew=W:=⟨_,rfl⟩
 have hx5:BxL 26 w.heap.size [.slice pa ml ca,.slice pb mo cb,.slice pc mc cc,.slice pd ms cd,.bool p.sens,.int .i64 p.steps,.int .i64 p.paths,.int .i64 p.nodes,.int .i64 p.conf] w5:=by rw [← hw5];exact ((HX3.out.set 2 (.slice pc mc cc)).set 3 (.slice pd ms cd)).drJ
 have hk5:∀ j,j ≠ w.heap.size→w5.heap[j]?=w3.heap[j]?:=fun j h=>by rw [← hw5];show (World.setCell _ _ _).heap[j]?=_;rw [heap_ot h,heap_ot h]
 have HY5:=hid (show BxL 26 (w.heap.size+1) [.slice none 0 0,.slice none 0 0,.slice none 0 0,.slice none 0 0,.bool false,.int .i64 0,.int .i64 0,.int .i64 0,.int .i64 0] w5 from HY3.out.keep (hk5 _ (by omega)))
 have HB5:=hid (show Below w.heap.size w w5 from by rw [← hw5];exact ((HB3.out.setCell (p:=⟨w.heap.size,2,none⟩) (Nat.le_refl _) _).setCell (p:=⟨w.heap.size,3,none⟩) (Nat.le_refl _) _).drew)
 have HZ5:=hid (show w5.heap.size=w.heap.size+2 from by rw [← hw5];show (World.setCell _ _ _).heap.size=_;rw [World.size_setCell,World.size_setCell];exact HZ3.out)
 rw [hw5]
 clear hw5 hk5
 have x0:w5.cell? ⟨w.heap.size,0,none⟩=some (.slice pa ml ca):=hx5.at 0 rfl
 have x1:w5.cell? ⟨w.heap.size,1,none⟩=some (.slice pb mo cb):=hx5.at 1 rfl
 have x2:w5.cell? ⟨w.heap.size,2,none⟩=some (.slice pc mc cc):=hx5.at 2 rfl
 have x3:w5.cell? ⟨w.heap.size,3,none⟩=some (.slice pd ms cd):=hx5.at 3 rfl
 have x4:w5.cell? ⟨w.heap.size,4,none⟩=some (.bool p.sens):=hx5.at 4 rfl
 have x5:w5.cell? ⟨w.heap.size,5,none⟩=some (.int .i64 p.steps):=hx5.at 5 rfl
 have x6:w5.cell? ⟨w.heap.size,6,none⟩=some (.int .i64 p.paths):=hx5.at 6 rfl
 have x7:w5.cell? ⟨w.heap.size,7,none⟩=some (.int .i64 p.nodes):=hx5.at 7 rfl
 have x8:w5.cell? ⟨w.heap.size,8,none⟩=some (.int .i64 p.conf):=hx5.at 8 rfl
 clear hx5
 have HCP:=hid (show Calls Tryd.prog 8 #[.agg #[.slice pa ml ca,.slice pb mo cb,.slice pc mc cc,.slice pd ms cd,.bool p.sens,.int .i64 p.steps,.int .i64 p.paths,.int .i64 p.nodes,.int .i64 p.conf]] w5 _ from by
  have h1:=copypo_any q (.slice pa ml ca) (.slice pb mo cb) (.slice pc mc cc) (.slice pd ms cd) w5 (HQ.out.below HB5.out) HLL.out
  rw [HE.out.1,HE.out.2.1,HE.out.2.2.1,HE.out.2.2.2] at h1
  unfold poL at h1
  rw [HFS.out.1,HFS.out.2.1,HFS.out.2.2.1,HFS.out.2.2.2.1,HFS.out.2.2.2.2] at h1
  exact h1)
 go_wp2_with (go_at_call 8;(refine HCP.out.mono ?_);rintro e w7 ⟨qa,xa,qb,xb,qc,xc,qd,xd,rfl,hg,hb⟩;have HG7:=hid hg;have HB7:=hid (HB5.out.trans (hb.mono HB5.out.size));have HY7:=hid (HY5.out.bel hb);have HZ7:=hid hb.size;clear hg hb;have y0:w7.cell? ⟨w.heap.size+1,0,none⟩=some (.slice none 0 0):=HY7.out.at 0 rfl;have y1:w7.cell? ⟨w.heap.size+1,1,none⟩=some (.slice none 0 0):=HY7.out.at 1 rfl;have y2:w7.cell? ⟨w.heap.size+1,2,none⟩=some (.slice none 0 0):=HY7.out.at 2 rfl;have y3:w7.cell? ⟨w.heap.size+1,3,none⟩=some (.slice none 0 0):=HY7.out.at 3 rfl;have y4:w7.cell? ⟨w.heap.size+1,4,none⟩=some (.bool false):=HY7.out.at 4 rfl;have y5:w7.cell? ⟨w.heap.size+1,5,none⟩=some (.int .i64 0):=HY7.out.at 5 rfl;have y6:w7.cell? ⟨w.heap.size+1,6,none⟩=some (.int .i64 0):=HY7.out.at 6 rfl;have y7:w7.cell? ⟨w.heap.size+1,7,none⟩=some (.int .i64 0):=HY7.out.at 7 rfl;have y8:w7.cell? ⟨w.heap.size+1,8,none⟩=some (.int .i64 0):=HY7.out.at 8 rfl;have g0:w7.frozen? ⟨w.heap.size+1,0,none⟩=false:=HY7.out.fr 0;have g1:w7.frozen? ⟨w.heap.size+1,1,none⟩=false:=HY7.out.fr 1;have g2:w7.frozen? ⟨w.heap.size+1,2,none⟩=false:=HY7.out.fr 2;have g3:w7.frozen? ⟨w.heap.size+1,3,none⟩=false:=HY7.out.fr 3;have g4:w7.frozen? ⟨w.heap.size+1,4,none⟩=false:=HY7.out.fr 4;have g5:w7.frozen? ⟨w.heap.size+1,5,none⟩=false:=HY7.out.fr 5;have g6:w7.frozen? ⟨w.heap.size+1,6,none⟩=false:=HY7.out.fr 6;have g7:w7.frozen? ⟨w.heap.size+1,7,none⟩=false:=HY7.out.fr 7;have g8:w7.frozen? ⟨w.heap.size+1,8,none⟩=false:=HY7.out.fr 8)
 clear x0 y0 g0 x1 y1 g1 x2 y2 g2 x3 y3 g3 x4 y4 g4 x5 y5 g5 x6 y6 g6 x7 y7 g7 x8 y8 g8
 obtain ⟨wq,hwq⟩:∃ W,(((((((((w7).setCell ⟨w.heap.size+1,0,none⟩ (.slice qa ml xa)).setCell ⟨w.heap.size+1,1,none⟩ (.slice qb mo xb)).setCell ⟨w.heap.size+1,2,none⟩ (.slice qc mc xc)).setCell ⟨w.heap.size+1,3,none⟩ (.slice qd ms xd)).setCell ⟨w.heap.size+1,4,none⟩ (.bool p.sens)).setCell ⟨w.heap.size+1,5,none⟩ (.int .i64 p.steps)).setCell ⟨w.heap.size+1,6,none⟩ (.int .i64 p.paths)).setCell ⟨w.heap.size+1,7,none⟩ (.int .i64 p.nodes)).setCell ⟨w.heap.size+1,8,none⟩ (.int .i64 p.conf)=W:=⟨_,rfl⟩
 rw [hwq]
 have hyq:BxL 26 (w.heap.size+1) [.slice qa ml xa,.slice qb mo xb,.slice qc mc xc,.slice qd ms xd,.bool p.sens,.int .i64 p.steps,.int .i64 p.paths,.int .i64 p.nodes,.int .i64 p.conf] wq:=by rw [← hwq];exact (((((((((HY7.out.set 0 (.slice qa ml xa)).set 1 (.slice qb mo xb)).set 2 (.slice qc mc xc)).set 3 (.slice qd ms xd)).set 4 (.bool p.sens)).set 5 (.int .i64 p.steps)).set 6 (.int .i64 p.paths)).set 7 (.int .i64 p.nodes)).set 8 (.int .i64 p.conf))
 have hkq:∀ j,j ≠ w.heap.size+1→wq.heap[j]?=w7.heap[j]?:=fun j h2=>by rw [← hwq,heap_ot h2,heap_ot h2,heap_ot h2,heap_ot h2,heap_ot h2,heap_ot h2,heap_ot h2,heap_ot h2,heap_ot h2]
 have hbq:Below w.heap.size w wq:=by
  rw [← hwq]
  exact (((((((((HB7.out.setCell (p:=⟨w.heap.size+1,0,none⟩) (Nat.le_succ _) _).setCell (p:=⟨w.heap.size+1,1,none⟩) (Nat.le_succ _) _).setCell (p:=⟨w.heap.size+1,2,none⟩) (Nat.le_succ _) _).setCell (p:=⟨w.heap.size+1,3,none⟩) (Nat.le_succ _) _).setCell (p:=⟨w.heap.size+1,4,none⟩) (Nat.le_succ _) _).setCell (p:=⟨w.heap.size+1,5,none⟩) (Nat.le_succ _) _).setCell (p:=⟨w.heap.size+1,6,none⟩) (Nat.le_succ _) _).setCell (p:=⟨w.heap.size+1,7,none⟩) (Nat.le_succ _) _).setCell (p:=⟨w.heap.size+1,8,none⟩) (Nat.le_succ _) _)
 have r0:wq.cell? ⟨w.heap.size+1,0,none⟩=some (.slice qa ml xa):=hyq.at 0 rfl
 have r1:wq.cell? ⟨w.heap.size+1,1,none⟩=some (.slice qb mo xb):=hyq.at 1 rfl
 have r2:wq.cell? ⟨w.heap.size+1,2,none⟩=some (.slice qc mc xc):=hyq.at 2 rfl
 have r3:wq.cell? ⟨w.heap.size+1,3,none⟩=some (.slice qd ms xd):=hyq.at 3 rfl
 have r4:wq.cell? ⟨w.heap.size+1,4,none⟩=some (.bool p.sens):=hyq.at 4 rfl
 have r5:wq.cell? ⟨w.heap.size+1,5,none⟩=some (.int .i64 p.steps):=hyq.at 5 rfl
 have r6:wq.cell? ⟨w.heap.size+1,6,none⟩=some (.int .i64 p.paths):=hyq.at 6 rfl
 have r7:wq.cell? ⟨w.heap.size+1,7,none⟩=some (.int .i64 p.nodes):=hyq.at 7 rfl
 have r8:wq.cell? ⟨w.heap.size+1,8,none⟩=some (.int .i64 p.conf):=hyq.at 8 rfl
 clear hwq hyq
 refine bodyPost_ret (v := .agg #[.slice qa ml xa,.slice qb mo xb,.slice qc mc xc,.slice qd ms xd,.bool p.sens,.int .i64 p.steps,.int .i64 p.paths,.int .i64 p.nodes,.int .i64 p.conf]) (by simp [results,Tryd.results6,go_sem,r0,r1,r2,r3,r4,r5,r6,r7,r8]) rfl ?_
 refine ⟨_,_,_,_,_,_,_,_,rfl,?_,hbq⟩
 have h5:=HZ5.out
 rw [h5] at HG7
 have hG:=HG7.out.own (w':=wq) fun k hk _=>hkq k (by omega)
 exact ⟨hG.lv.base (by omega),hG.od.base (by omega),hG.ch.base (by omega),hG.st.base (by omega),hG.ne⟩
end Go.Proofs.YtbijamcoibonkaaDoor
