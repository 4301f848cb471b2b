/-
 The law PolicyChecks.
-/
import Derived.Test.YtbijamcoibonkaaDoorCSRnF
import Derived.Test.YtbijamcoibonkaaDoorCSPoY
import Derived.Deep.DeepCutAuto
namespace Go.Proofs.YtbijamcoibonkaaDoor
set_option linter.unusedSimpArgs false
set_option linter.unusedVariables false
open Go.RowKit Go.Shelf
attribute [local go_sem] Oper.semAt_some
theorem few_v (p q:Po) (hq:fewPo p=q) (nl no nc ns:Nat) (h1:q.lv.length=nl) (h2:q.od.length=no) (h3:q.ch.length=nc) (h4:q.st.length=ns) (a b c d:Value) (w:World) (hp:PoV (·<w.heap.size) w a b c d p) :
  Calls Tryd.prog 6 #[.agg #[a,b,c,d,.bool p.sens,.int .i64 p.steps,.int .i64 p.paths,.int .i64 p.nodes,.int .i64 p.conf]] w fun e w'=>∃ qa xa qb xb qc xc qd xd,e = .returned (.agg #[.slice qa nl xa,.slice qb no xb,.slice qc nc xc,.slice qd ns xd,.bool q.sens,.int .i64 q.steps,.int .i64 q.paths,.int .i64 q.nodes,.int .i64 q.conf])∧PoG (w.heap.size+2) w' (.slice qa nl xa) (.slice qb no xb) (.slice qc nc xc) (.slice qd ns xd) q∧Below w.heap.size w w':=by
 subst hq h1 h2 h3 h4
 exact few_po p a b c d w hp
theorem copy_v (q:Po) (nl no nc ns:Nat) (h1:q.lv.length=nl) (h2:q.od.length=no) (h3:q.ch.length=nc) (h4:q.st.length=ns) (hl:LenPo q) (a b c d:Value) (w:World) (hp:PoV (·<w.heap.size) w a b c d q) :
  Calls Tryd.prog 8 #[.agg #[a,b,c,d,.bool q.sens,.int .i64 q.steps,.int .i64 q.paths,.int .i64 q.nodes,.int .i64 q.conf]] w fun e w'=>∃ ra ya rb yb rc yc rd yd,e = .returned (.agg #[.slice ra nl ya,.slice rb no yb,.slice rc nc yc,.slice rd ns yd,.bool q.sens,.int .i64 q.steps,.int .i64 q.paths,.int .i64 q.nodes,.int .i64 q.conf])∧PoG (w.heap.size+2) w' (.slice ra nl ya) (.slice rb no yb) (.slice rc nc yc) (.slice rd ns yd) q∧Below w.heap.size w w':=by
 subst h1 h2 h3 h4
 exact copypo_any q a b c d w hp hl
theorem few_sv {p:Po} (h:PoS p):PoS (fewPo p):=⟨fun s hs=>h.lv s (List.mem_of_mem_take hs),fun s hs=>h.ch s (List.mem_of_mem_take hs),fun s hs=>h.st s (List.mem_of_mem_take hs)⟩
set_option maxRecDepth 100000 in
set_option maxHeartbeats 4000000 in
theorem policyChecks_any (p:Po) (a b c d:Value) (p2:Po) (a2 b2 c2 d2:Value) (w:World) (hp:PoV (·<w.heap.size) w a b c d p) (hs:PoS p) (hp2:PoV (·<w.heap.size) w a2 b2 c2 d2 p2) (hs2:PoS p2) (hE:E28 w) :
  Calls Tryd.prog 4 #[.agg (poL a b c d p).toArray,.agg (poL a2 b2 c2 d2 p2).toArray] w fun e w'=>e = .returned (.bool true)∧Below w.heap.size w w':=by
 obtain ⟨pa,ca,rfl⟩:=hp.1.slc
 obtain ⟨pb,cb,rfl⟩:=hp.2.1.slc
 obtain ⟨pc,cc,rfl⟩:=hp.2.2.1.slc
 obtain ⟨pd,cd,rfl⟩:=hp.2.2.2.slc
 obtain ⟨ea,ga,rfl⟩:=hp2.1.slc
 obtain ⟨eb,gb,rfl⟩:=hp2.2.1.slc
 obtain ⟨ec,gc,rfl⟩:=hp2.2.2.1.slc
 obtain ⟨ed,gd,rfl⟩:=hp2.2.2.2.slc
 obtain ⟨q,hq⟩:∃ q,fewPo p=q:=⟨_,rfl⟩
 obtain ⟨q2,hq2⟩:∃ q,fewPo p2=q:=⟨_,rfl⟩
 have hqs:=few_sv hs
 have hqs2:=few_sv hs2
 have hql:=few_lenPo p
 have hql2:=few_lenPo p2
 rw [hq] at hqs hql
 rw [hq2] at hqs2 hql2
 obtain ⟨nl,hnl⟩:∃ n,q.lv.length=n:=⟨_,rfl⟩
 obtain ⟨no,hno⟩:∃ n,q.od.length=n:=⟨_,rfl⟩
 obtain ⟨nc,hnc⟩:∃ n,q.ch.length=n:=⟨_,rfl⟩
 obtain ⟨ns,hns⟩:∃ n,q.st.length=n:=⟨_,rfl⟩
 obtain ⟨ml,hml⟩:∃ n,q2.lv.length=n:=⟨_,rfl⟩
 obtain ⟨mo,hmo⟩:∃ n,q2.od.length=n:=⟨_,rfl⟩
 obtain ⟨mc,hmc⟩:∃ n,q2.ch.length=n:=⟨_,rfl⟩
 obtain ⟨ms,hms⟩:∃ n,q2.st.length=n:=⟨_,rfl⟩
 have HFW:=hid (fun W (hW:Below w.heap.size w W)=>few_v p q hq nl no nc ns hnl hno hnc hns (.slice pa p.lv.length ca) (.slice pb p.od.length cb) (.slice pc p.ch.length cc) (.slice pd p.st.length cd) W (hp.below hW))
 have HFW2:=hid (fun W (hW:Below w.heap.size w W)=>show Calls Tryd.prog 6 #[.agg #[.slice ea p2.lv.length ga,.slice eb p2.od.length gb,.slice ec p2.ch.length gc,.slice ed p2.st.length gd,.bool p2.sens,.int .i64 p2.steps,.int .i64 p2.paths,.int .i64 p2.nodes,.int .i64 p2.conf]] W (fun e w'=>∃ sa za sb zb sc zc sd zd,e = .returned (.agg #[.slice sa ml za,.slice sb mo zb,.slice sc mc zc,.slice sd ms zd,.bool q2.sens,.int .i64 q2.steps,.int .i64 q2.paths,.int .i64 q2.nodes,.int .i64 q2.conf])∧PoG (W.heap.size+2) w' (.slice sa ml za) (.slice sb mo zb) (.slice sc mc zc) (.slice sd ms zd) q2∧Below W.heap.size W w') from few_v p2 q2 hq2 ml mo mc ms hml hmo hmc hms (.slice ea p2.lv.length ga) (.slice eb p2.od.length gb) (.slice ec p2.ch.length gc) (.slice ed p2.st.length gd) W (hp2.below hW))
 have HCP:=hid (fun (qa qb qc qd:Option Addr) (xa xb xc xd:Nat) W (hv:PoV (·<W.heap.size) W (.slice qa nl xa) (.slice qb no xb) (.slice qc nc xc) (.slice qd ns xd) q)=>copy_v q nl no nc ns hnl hno hnc hns hql (.slice qa nl xa) (.slice qb no xb) (.slice qc nc xc) (.slice qd ns xd) W hv)
 obtain ⟨T,E,hTE⟩:∃ T E,printP q=(T,E):=⟨_,_,rfl⟩
 have HPR:=hid (fun (ra rb rc rd:Option Addr) (ya yb yc yd:Nat) W (hW:Below w.heap.size w W) (hv:PoV (·<W.heap.size) W (.slice ra nl ya) (.slice rb no yb) (.slice rc nc yc) (.slice rd ns yd) q)=>show Calls Tryd.prog 12 #[.agg #[.slice ra nl ya,.slice rb no yb,.slice rc nc yc,.slice rd ns yd,.bool q.sens,.int .i64 q.steps,.int .i64 q.paths,.int .i64 q.nodes,.int .i64 q.conf]] W (fun e w'=>e = .returned (.tuple #[.string ⟨T.toArray⟩,.int .i64 E])∧Below W.heap.size W w') from by
  have h1:=print_po q _ _ _ _ W (hE.keep hW).po hv hqs
  rw [hTE] at h1
  exact h1)
 have HRP:=hid (fun (qa qb qc qd:Option Addr) (xa xb xc xd:Nat) W (hv:PoV (·<W.heap.size) W (.slice qa nl xa) (.slice qb no xb) (.slice qc nc xc) (.slice qd ns xd) q)=>show Calls Tryd.prog 13 #[.agg #[.slice qa nl xa,.slice qb no xb,.slice qc nc xc,.slice qd ns xd,.bool q.sens,.int .i64 q.steps,.int .i64 q.paths,.int .i64 q.nodes,.int .i64 q.conf]] W (fun e w'=>e = .returned (.tuple #[.string ⟨T.toArray⟩,.int .i64 E])∧Below W.heap.size W w') from by
  have h1:=rprint_po q _ _ _ _ W hv hqs
  rw [hTE] at h1
  exact h1)
 have HQL:=hid hql;have HQS:=hid hqs;have HE:=hid hE;have HQL2:=hid hql2
 clear hp hs hp2 hs2 hE hq hq2 hqs hqs2 hql hql2 hnl hno hnc hns hml hmo hmc hms hTE
 go_enter Tryd.func4,Tryd.ntmps4
 go_upto_region 1 with fail
 obtain ⟨w0,hw0⟩:∃ W,(w.alloc (.cells #[.slice pa p.lv.length ca,.slice pb p.od.length cb,.slice pc p.ch.length cc,.slice pd p.st.length cd,.bool p.sens,.int .i64 p.steps,.int .i64 p.paths,.int .i64 p.nodes,.int .i64 p.conf] 26)).alloc (.cells #[.slice ea p2.lv.length ga,.slice eb p2.od.length gb,.slice ec p2.ch.length gc,.slice ed p2.st.length gd,.bool p2.sens,.int .i64 p2.steps,.int .i64 p2.paths,.int .i64 p2.nodes,.int .i64 p2.conf] 26)=W:=⟨_,rfl⟩
 have HX0:=hid (show BxL 26 w.heap.size [.slice pa p.lv.length ca,.slice pb p.od.length cb,.slice pc p.ch.length cc,.slice pd p.st.length cd,.bool p.sens,.int .i64 p.steps,.int .i64 p.paths,.int .i64 p.nodes,.int .i64 p.conf] w0 from by rw [← hw0];exact (BxL.new _ _ _).al _)
 have HY0:=hid (show BxL 26 (w.heap.size+1) [.slice ea p2.lv.length ga,.slice eb p2.od.length gb,.slice ec p2.ch.length gc,.slice ed p2.st.length gd,.bool p2.sens,.int .i64 p2.steps,.int .i64 p2.paths,.int .i64 p2.nodes,.int .i64 p2.conf] w0 from by rw [← hw0,← World.size_alloc w (.cells #[.slice pa p.lv.length ca,.slice pb p.od.length cb,.slice pc p.ch.length cc,.slice pd p.st.length cd,.bool p.sens,.int .i64 p.steps,.int .i64 p.paths,.int .i64 p.nodes,.int .i64 p.conf] 26)];exact BxL.new _ _ _)
 have HB0:=hid (show Below w.heap.size w w0 from by rw [← hw0];exact ((Below.refl _ _).alloc (Nat.le_refl _) _).alloc (by rw [World.size_alloc];omega) _)
 have HZ0:=hid (show w0.heap.size=w.heap.size+2 from by rw [← hw0,World.size_alloc,World.size_alloc])
 rw [hw0]
 clear hw0
 have n0:w0.drew.cell? ⟨w.heap.size,0,none⟩=some (.slice pa p.lv.length ca):=HX0.out.drJ.at 0 rfl
 have n1:w0.drew.cell? ⟨w.heap.size,1,none⟩=some (.slice pb p.od.length cb):=HX0.out.drJ.at 1 rfl
 have n2:w0.drew.cell? ⟨w.heap.size,2,none⟩=some (.slice pc p.ch.length cc):=HX0.out.drJ.at 2 rfl
 have n3:w0.drew.cell? ⟨w.heap.size,3,none⟩=some (.slice pd p.st.length cd):=HX0.out.drJ.at 3 rfl
 have n4:w0.drew.cell? ⟨w.heap.size,4,none⟩=some (.bool p.sens):=HX0.out.drJ.at 4 rfl
 have n5:w0.drew.cell? ⟨w.heap.size,5,none⟩=some (.int .i64 p.steps):=HX0.out.drJ.at 5 rfl
 have n6:w0.drew.cell? ⟨w.heap.size,6,none⟩=some (.int .i64 p.paths):=HX0.out.drJ.at 6 rfl
 have n7:w0.drew.cell? ⟨w.heap.size,7,none⟩=some (.int .i64 p.nodes):=HX0.out.drJ.at 7 rfl
 have n8:w0.drew.cell? ⟨w.heap.size,8,none⟩=some (.int .i64 p.conf):=HX0.out.drJ.at 8 rfl
 have hS:(fun W:World=>W.cell? ⟨(w.heap.size+1),0,none⟩=some (.slice ea p2.lv.length ga)∧W.cell? ⟨(w.heap.size+1),1,none⟩=some (.slice eb p2.od.length gb)∧W.cell? ⟨(w.heap.size+1),2,none⟩=some (.slice ec p2.ch.length gc)∧W.cell? ⟨(w.heap.size+1),3,none⟩=some (.slice ed p2.st.length gd)∧W.cell? ⟨(w.heap.size+1),4,none⟩=some (.bool p2.sens)∧W.cell? ⟨(w.heap.size+1),5,none⟩=some (.int .i64 p2.steps)∧W.cell? ⟨(w.heap.size+1),6,none⟩=some (.int .i64 p2.paths)∧W.cell? ⟨(w.heap.size+1),7,none⟩=some (.int .i64 p2.nodes)∧W.cell? ⟨(w.heap.size+1),8,none⟩=some (.int .i64 p2.conf)) w0.drew:=⟨HY0.out.drJ.at 0 rfl,HY0.out.drJ.at 1 rfl,HY0.out.drJ.at 2 rfl,HY0.out.drJ.at 3 rfl,HY0.out.drJ.at 4 rfl,HY0.out.drJ.at 5 rfl,HY0.out.drJ.at 6 rfl,HY0.out.drJ.at 7 rfl,HY0.out.drJ.at 8 rfl⟩
 have hFa:=fT
 refine rgN (fun W:World=>W.cell? ⟨(w.heap.size+1),0,none⟩=some (.slice ea p2.lv.length ga)∧W.cell? ⟨(w.heap.size+1),1,none⟩=some (.slice eb p2.od.length gb)∧W.cell? ⟨(w.heap.size+1),2,none⟩=some (.slice ec p2.ch.length gc)∧W.cell? ⟨(w.heap.size+1),3,none⟩=some (.slice ed p2.st.length gd)∧W.cell? ⟨(w.heap.size+1),4,none⟩=some (.bool p2.sens)∧W.cell? ⟨(w.heap.size+1),5,none⟩=some (.int .i64 p2.steps)∧W.cell? ⟨(w.heap.size+1),6,none⟩=some (.int .i64 p2.paths)∧W.cell? ⟨(w.heap.size+1),7,none⟩=some (.int .i64 p2.nodes)∧W.cell? ⟨(w.heap.size+1),8,none⟩=some (.int .i64 p2.conf)) 5 (by kernel_rfl) ?_
 simp only [List.size_toArray,List.length_cons,List.length_nil,Nat.reduceAdd]
 (refine wpHJ_nx (v:=?_) 8 rfl rfl (by kernel_rfl) nE hS ?_ ?_;rotate_left;(focus refine Or.inl ⟨by rfl,?_⟩;rintro w' ⟨s0,s1,s2,s3,s4,s5,s6,s7,s8⟩;(try go_simp);try rfl);simp only [Act.put,actP,actQ])
 refine wpHJ_only 0 (by kernel_rfl) rfl (fun K hK=>?_)
 go_simp
 refine hK _ _ (.inr (.inr hS)) ?_
 clear hK K
 refine wpHJ_only 1 (by kernel_rfl) rfl (fun K hK=>?_)
 go_simp
 (refine (callsIn_wide.2 (HFW.out _ HB0.out.drew)).mono ?_)
 rintro e w1 ⟨qa,xa,qb,xb,qc,xc,qd,xd,rfl,hg,hb⟩
 have HG1:=hid hg
 have HB1:=hid (HB0.out.drew.trans (hb.mono HB0.out.drew.size))
 have HX1:=hid (HX0.out.drJ.bel hb)
 have HY1:=hid (HY0.out.drJ.bel hb)
 clear hg hb
 have hS1:(fun W:World=>W.cell? ⟨(w.heap.size+1),0,none⟩=some (.slice ea p2.lv.length ga)∧W.cell? ⟨(w.heap.size+1),1,none⟩=some (.slice eb p2.od.length gb)∧W.cell? ⟨(w.heap.size+1),2,none⟩=some (.slice ec p2.ch.length gc)∧W.cell? ⟨(w.heap.size+1),3,none⟩=some (.slice ed p2.st.length gd)∧W.cell? ⟨(w.heap.size+1),4,none⟩=some (.bool p2.sens)∧W.cell? ⟨(w.heap.size+1),5,none⟩=some (.int .i64 p2.steps)∧W.cell? ⟨(w.heap.size+1),6,none⟩=some (.int .i64 p2.paths)∧W.cell? ⟨(w.heap.size+1),7,none⟩=some (.int .i64 p2.nodes)∧W.cell? ⟨(w.heap.size+1),8,none⟩=some (.int .i64 p2.conf)) w1:=⟨HY1.out.at 0 rfl,HY1.out.at 1 rfl,HY1.out.at 2 rfl,HY1.out.at 3 rfl,HY1.out.at 4 rfl,HY1.out.at 5 rfl,HY1.out.at 6 rfl,HY1.out.at 7 rfl,HY1.out.at 8 rfl⟩
 refine hK _ _ (.inr (.inr hS1)) ?_
 clear hK K
 refine wpHJ_only 3 (by kernel_rfl) rfl (fun K hK=>?_)
 go_simp
 (refine (callsIn_wide.2 (HFW2.out _ HB1.out)).mono ?_)
 rintro e w2 ⟨sa,za,sb,zb,sc,zc,sd,zd,rfl,hg,hb⟩
 have HG2:=hid hg
 have HG1b:=hid (HG1.out.below hb)
 have HS12:=hid hb.size
 have HB2:=hid (HB1.out.trans (hb.mono HB1.out.size))
 have HX2:=hid (HX1.out.bel hb)
 have HY2:=hid (HY1.out.bel hb)
 clear hg hb
 have hS2:(fun W:World=>W.cell? ⟨(w.heap.size+1),0,none⟩=some (.slice ea p2.lv.length ga)∧W.cell? ⟨(w.heap.size+1),1,none⟩=some (.slice eb p2.od.length gb)∧W.cell? ⟨(w.heap.size+1),2,none⟩=some (.slice ec p2.ch.length gc)∧W.cell? ⟨(w.heap.size+1),3,none⟩=some (.slice ed p2.st.length gd)∧W.cell? ⟨(w.heap.size+1),4,none⟩=some (.bool p2.sens)∧W.cell? ⟨(w.heap.size+1),5,none⟩=some (.int .i64 p2.steps)∧W.cell? ⟨(w.heap.size+1),6,none⟩=some (.int .i64 p2.paths)∧W.cell? ⟨(w.heap.size+1),7,none⟩=some (.int .i64 p2.nodes)∧W.cell? ⟨(w.heap.size+1),8,none⟩=some (.int .i64 p2.conf)) w2:=⟨HY2.out.at 0 rfl,HY2.out.at 1 rfl,HY2.out.at 2 rfl,HY2.out.at 3 rfl,HY2.out.at 4 rfl,HY2.out.at 5 rfl,HY2.out.at 6 rfl,HY2.out.at 7 rfl,HY2.out.at 8 rfl⟩
 clear n0 n1 n2 n3 n4 n5 n6 n7 n8
 have n0:w2.cell? ⟨w.heap.size,0,none⟩=some (.slice pa p.lv.length ca):=HX2.out.at 0 rfl
 have n1:w2.cell? ⟨w.heap.size,1,none⟩=some (.slice pb p.od.length cb):=HX2.out.at 1 rfl
 have n2:w2.cell? ⟨w.heap.size,2,none⟩=some (.slice pc p.ch.length cc):=HX2.out.at 2 rfl
 have n3:w2.cell? ⟨w.heap.size,3,none⟩=some (.slice pd p.st.length cd):=HX2.out.at 3 rfl
 have n4:w2.cell? ⟨w.heap.size,4,none⟩=some (.bool p.sens):=HX2.out.at 4 rfl
 have n5:w2.cell? ⟨w.heap.size,5,none⟩=some (.int .i64 p.steps):=HX2.out.at 5 rfl
 have n6:w2.cell? ⟨w.heap.size,6,none⟩=some (.int .i64 p.paths):=HX2.out.at 6 rfl
 have n7:w2.cell? ⟨w.heap.size,7,none⟩=some (.int .i64 p.nodes):=HX2.out.at 7 rfl
 have n8:w2.cell? ⟨w.heap.size,8,none⟩=some (.int .i64 p.conf):=HX2.out.at 8 rfl
 have f0:w2.frozen? ⟨w.heap.size,0,none⟩=false:=HX2.out.fr 0
 have f1:w2.frozen? ⟨w.heap.size,1,none⟩=false:=HX2.out.fr 1
 have f2:w2.frozen? ⟨w.heap.size,2,none⟩=false:=HX2.out.fr 2
 have f3:w2.frozen? ⟨w.heap.size,3,none⟩=false:=HX2.out.fr 3
 have f4:w2.frozen? ⟨w.heap.size,4,none⟩=false:=HX2.out.fr 4
 have f5:w2.frozen? ⟨w.heap.size,5,none⟩=false:=HX2.out.fr 5
 have f6:w2.frozen? ⟨w.heap.size,6,none⟩=false:=HX2.out.fr 6
 have f7:w2.frozen? ⟨w.heap.size,7,none⟩=false:=HX2.out.fr 7
 have f8:w2.frozen? ⟨w.heap.size,8,none⟩=false:=HX2.out.fr 8
 refine hK _ _ (.inr (.inr hS2)) ?_
 clear hK K
 refine wpHJ_only 4 (by kernel_rfl) rfl (fun K hK=>?_)
 go_simp
 obtain ⟨w3,hw3⟩:∃ W,(((((((((w2).setCell ⟨w.heap.size,0,none⟩ (.slice qa nl xa)).setCell ⟨w.heap.size,1,none⟩ (.slice qb no xb)).setCell ⟨w.heap.size,2,none⟩ (.slice qc nc xc)).setCell ⟨w.heap.size,3,none⟩ (.slice qd ns xd)).setCell ⟨w.heap.size,4,none⟩ (.bool q.sens)).setCell ⟨w.heap.size,5,none⟩ (.int .i64 q.steps)).setCell ⟨w.heap.size,6,none⟩ (.int .i64 q.paths)).setCell ⟨w.heap.size,7,none⟩ (.int .i64 q.nodes)).setCell ⟨w.heap.size,8,none⟩ (.int .i64 q.conf)=W:=⟨_,rfl⟩
 have HX3:=hid (show BxL 26 w.heap.size [.slice qa nl xa,.slice qb no xb,.slice qc nc xc,.slice qd ns xd,.bool q.sens,.int .i64 q.steps,.int .i64 q.paths,.int .i64 q.nodes,.int .i64 q.conf] w3 from by rw [← hw3];exact (((((((((HX2.out.set 0 (.slice qa nl xa)).set 1 (.slice qb no xb)).set 2 (.slice qc nc xc)).set 3 (.slice qd ns xd)).set 4 (.bool q.sens)).set 5 (.int .i64 q.steps)).set 6 (.int .i64 q.paths)).set 7 (.int .i64 q.nodes)).set 8 (.int .i64 q.conf)))
 have HK3:=hid (show ∀ i,i ≠ w.heap.size→w3.heap[i]?=w2.heap[i]? from fun i hi=>by rw [← hw3,heap_ot hi,heap_ot hi,heap_ot hi,heap_ot hi,heap_ot hi,heap_ot hi,heap_ot hi,heap_ot hi,heap_ot hi])
 have HB3:=hid (show Below w.heap.size w w3 from by rw [← hw3];exact (((((((((HB2.out.setCell (p:=⟨w.heap.size,0,none⟩) (Nat.le_refl _) _).setCell (p:=⟨w.heap.size,1,none⟩) (Nat.le_refl _) _).setCell (p:=⟨w.heap.size,2,none⟩) (Nat.le_refl _) _).setCell (p:=⟨w.heap.size,3,none⟩) (Nat.le_refl _) _).setCell (p:=⟨w.heap.size,4,none⟩) (Nat.le_refl _) _).setCell (p:=⟨w.heap.size,5,none⟩) (Nat.le_refl _) _).setCell (p:=⟨w.heap.size,6,none⟩) (Nat.le_refl _) _).setCell (p:=⟨w.heap.size,7,none⟩) (Nat.le_refl _) _).setCell (p:=⟨w.heap.size,8,none⟩) (Nat.le_refl _) _))
 have HZ3:=hid (show w3.heap.size=w2.heap.size from by rw [← hw3];simp only [World.size_setCell])
 have HY3:=hid (HY2.out.keep (HK3.out _ (by omega)))
 rw [hw3]
 clear hw3 n0 f0 n1 f1 n2 f2 n3 f3 n4 f4 n5 f5 n6 f6 n7 f7 n8 f8
 have hS3:(fun W:World=>W.cell? ⟨(w.heap.size+1),0,none⟩=some (.slice ea p2.lv.length ga)∧W.cell? ⟨(w.heap.size+1),1,none⟩=some (.slice eb p2.od.length gb)∧W.cell? ⟨(w.heap.size+1),2,none⟩=some (.slice ec p2.ch.length gc)∧W.cell? ⟨(w.heap.size+1),3,none⟩=some (.slice ed p2.st.length gd)∧W.cell? ⟨(w.heap.size+1),4,none⟩=some (.bool p2.sens)∧W.cell? ⟨(w.heap.size+1),5,none⟩=some (.int .i64 p2.steps)∧W.cell? ⟨(w.heap.size+1),6,none⟩=some (.int .i64 p2.paths)∧W.cell? ⟨(w.heap.size+1),7,none⟩=some (.int .i64 p2.nodes)∧W.cell? ⟨(w.heap.size+1),8,none⟩=some (.int .i64 p2.conf)) w3:=⟨HY3.out.at 0 rfl,HY3.out.at 1 rfl,HY3.out.at 2 rfl,HY3.out.at 3 rfl,HY3.out.at 4 rfl,HY3.out.at 5 rfl,HY3.out.at 6 rfl,HY3.out.at 7 rfl,HY3.out.at 8 rfl⟩
 have n0:w3.cell? ⟨(w.heap.size+1),0,none⟩=some (.slice ea p2.lv.length ga):=HY3.out.at 0 rfl
 have n1:w3.cell? ⟨(w.heap.size+1),1,none⟩=some (.slice eb p2.od.length gb):=HY3.out.at 1 rfl
 have n2:w3.cell? ⟨(w.heap.size+1),2,none⟩=some (.slice ec p2.ch.length gc):=HY3.out.at 2 rfl
 have n3:w3.cell? ⟨(w.heap.size+1),3,none⟩=some (.slice ed p2.st.length gd):=HY3.out.at 3 rfl
 have n4:w3.cell? ⟨(w.heap.size+1),4,none⟩=some (.bool p2.sens):=HY3.out.at 4 rfl
 have n5:w3.cell? ⟨(w.heap.size+1),5,none⟩=some (.int .i64 p2.steps):=HY3.out.at 5 rfl
 have n6:w3.cell? ⟨(w.heap.size+1),6,none⟩=some (.int .i64 p2.paths):=HY3.out.at 6 rfl
 have n7:w3.cell? ⟨(w.heap.size+1),7,none⟩=some (.int .i64 p2.nodes):=HY3.out.at 7 rfl
 have n8:w3.cell? ⟨(w.heap.size+1),8,none⟩=some (.int .i64 p2.conf):=HY3.out.at 8 rfl
 have f0:w3.frozen? ⟨(w.heap.size+1),0,none⟩=false:=HY3.out.fr 0
 have f1:w3.frozen? ⟨(w.heap.size+1),1,none⟩=false:=HY3.out.fr 1
 have f2:w3.frozen? ⟨(w.heap.size+1),2,none⟩=false:=HY3.out.fr 2
 have f3:w3.frozen? ⟨(w.heap.size+1),3,none⟩=false:=HY3.out.fr 3
 have f4:w3.frozen? ⟨(w.heap.size+1),4,none⟩=false:=HY3.out.fr 4
 have f5:w3.frozen? ⟨(w.heap.size+1),5,none⟩=false:=HY3.out.fr 5
 have f6:w3.frozen? ⟨(w.heap.size+1),6,none⟩=false:=HY3.out.fr 6
 have f7:w3.frozen? ⟨(w.heap.size+1),7,none⟩=false:=HY3.out.fr 7
 have f8:w3.frozen? ⟨(w.heap.size+1),8,none⟩=false:=HY3.out.fr 8
 refine hK _ _ (.inr (.inr hS3)) ?_
 clear hK K
 refine wpHJ_only 5 (by kernel_rfl) rfl (fun K hK=>?_)
 go_simp
 obtain ⟨w4,hw4⟩:∃ W,(((((((((w3).setCell ⟨(w.heap.size+1),0,none⟩ (.slice sa ml za)).setCell ⟨(w.heap.size+1),1,none⟩ (.slice sb mo zb)).setCell ⟨(w.heap.size+1),2,none⟩ (.slice sc mc zc)).setCell ⟨(w.heap.size+1),3,none⟩ (.slice sd ms zd)).setCell ⟨(w.heap.size+1),4,none⟩ (.bool q2.sens)).setCell ⟨(w.heap.size+1),5,none⟩ (.int .i64 q2.steps)).setCell ⟨(w.heap.size+1),6,none⟩ (.int .i64 q2.paths)).setCell ⟨(w.heap.size+1),7,none⟩ (.int .i64 q2.nodes)).setCell ⟨(w.heap.size+1),8,none⟩ (.int .i64 q2.conf)=W:=⟨_,rfl⟩
 have HY4:=hid (show BxL 26 (w.heap.size+1) [.slice sa ml za,.slice sb mo zb,.slice sc mc zc,.slice sd ms zd,.bool q2.sens,.int .i64 q2.steps,.int .i64 q2.paths,.int .i64 q2.nodes,.int .i64 q2.conf] w4 from by rw [← hw4];exact (((((((((HY3.out.set 0 (.slice sa ml za)).set 1 (.slice sb mo zb)).set 2 (.slice sc mc zc)).set 3 (.slice sd ms zd)).set 4 (.bool q2.sens)).set 5 (.int .i64 q2.steps)).set 6 (.int .i64 q2.paths)).set 7 (.int .i64 q2.nodes)).set 8 (.int .i64 q2.conf)))
 have HK4:=hid (show ∀ i,i ≠ (w.heap.size+1)→w4.heap[i]?=w3.heap[i]? from fun i hi=>by rw [← hw4,heap_ot hi,heap_ot hi,heap_ot hi,heap_ot hi,heap_ot hi,heap_ot hi,heap_ot hi,heap_ot hi,heap_ot hi])
 have HB4:=hid (show Below w.heap.size w w4 from by rw [← hw4];exact (((((((((HB3.out.setCell (p:=⟨(w.heap.size+1),0,none⟩) (Nat.le_succ _) _).setCell (p:=⟨(w.heap.size+1),1,none⟩) (Nat.le_succ _) _).setCell (p:=⟨(w.heap.size+1),2,none⟩) (Nat.le_succ _) _).setCell (p:=⟨(w.heap.size+1),3,none⟩) (Nat.le_succ _) _).setCell (p:=⟨(w.heap.size+1),4,none⟩) (Nat.le_succ _) _).setCell (p:=⟨(w.heap.size+1),5,none⟩) (Nat.le_succ _) _).setCell (p:=⟨(w.heap.size+1),6,none⟩) (Nat.le_succ _) _).setCell (p:=⟨(w.heap.size+1),7,none⟩) (Nat.le_succ _) _).setCell (p:=⟨(w.heap.size+1),8,none⟩) (Nat.le_succ _) _))
 have HX4:=hid (HX3.out.keep (HK4.out _ (by omega)))
 rw [hw4]
 clear hw4 n0 f0 n1 f1 n2 f2 n3 f3 n4 f4 n5 f5 n6 f6 n7 f7 n8 f8
 refine hK _ _ (.inl rfl) ?_
 clear hK K
 refine wpHJ_done (by kernel_rfl) ?_ _
 simp only [onlyN,Exit.then]
 clear hFa
 clear hS hS1 hS2 hS3
 have HG4:=hid (show PoG (w.heap.size+2) w4 (.slice qa nl xa) (.slice qb no xb) (.slice qc nc xc) (.slice qd ns xd) q from by
  have h1:=HG1b.out
  have hz:=HZ0.out
  have h2:=h1.own (w':=w4) fun k hk _=>by
   have hk':w0.heap.size+2≤k:=hk
   rw [HK4.out k (by omega),HK3.out k (by omega)]
  have e:w.heap.size+2≤w0.drew.heap.size+2:=by show _≤w0.heap.size+2;omega
  exact ⟨h2.lv.base e,h2.od.base e,h2.ch.base e,h2.st.base e,h2.ne⟩)
 have HGB4:=hid (show PoG (w.heap.size+2) w4 (.slice sa ml za) (.slice sb mo zb) (.slice sc mc zc) (.slice sd ms zd) q2 from by
  have h1:=HG2.out
  have hz:=HZ0.out
  have hb:=HB1.out.size
  have h2:=h1.own (w':=w4) fun k hk _=>by
   rw [HK4.out k (by omega),HK3.out k (by omega)]
  have e:w.heap.size+2≤w1.heap.size+2:=by omega
  exact ⟨h2.lv.base e,h2.od.base e,h2.ch.base e,h2.st.base e,h2.ne⟩)
 have HV4:=hid ((HG4.out.pov HQL.out).weaken fun k hk=>hk.2)
 have HU4:=hid ((HGB4.out.pov HQL2.out).weaken fun k hk=>hk.2)
 clear HG1 HG1b HG2 HG4 HGB4 HK3 HK4
 have n0:w4.cell? ⟨w.heap.size,0,none⟩=some (.slice qa nl xa):=HX4.out.at 0 rfl
 have n1:w4.cell? ⟨w.heap.size,1,none⟩=some (.slice qb no xb):=HX4.out.at 1 rfl
 have n2:w4.cell? ⟨w.heap.size,2,none⟩=some (.slice qc nc xc):=HX4.out.at 2 rfl
 have n3:w4.cell? ⟨w.heap.size,3,none⟩=some (.slice qd ns xd):=HX4.out.at 3 rfl
 have n4:w4.cell? ⟨w.heap.size,4,none⟩=some (.bool q.sens):=HX4.out.at 4 rfl
 have n5:w4.cell? ⟨w.heap.size,5,none⟩=some (.int .i64 q.steps):=HX4.out.at 5 rfl
 have n6:w4.cell? ⟨w.heap.size,6,none⟩=some (.int .i64 q.paths):=HX4.out.at 6 rfl
 have n7:w4.cell? ⟨w.heap.size,7,none⟩=some (.int .i64 q.nodes):=HX4.out.at 7 rfl
 have n8:w4.cell? ⟨w.heap.size,8,none⟩=some (.int .i64 q.conf):=HX4.out.at 8 rfl
 go_upto_region 3 with (go_at_call 8;(with_reducible refine (HCP.out _ _ _ _ _ _ _ _ _ HV4.out).mono ?_);rintro e w5 ⟨ra,ya,rb,yb,rc,yc,rd,yd,rfl,hg,hb⟩;have HG5:=hid hg;have HB5:=hid (HB4.out.trans (hb.mono HB4.out.size));have HX5:=hid (HX4.out.bel hb);have HY5:=hid (HY4.out.bel hb);have HV5:=hid (HV4.out.below hb);have HU5:=hid (HU4.out.below hb);clear hg hb)
 clear n0 n1 n2 n3 n4 n5 n6 n7 n8
 obtain ⟨w6,hw6⟩:∃ W,w5.alloc (.cells #[.slice ra nl ya,.slice rb no yb,.slice rc nc yc,.slice rd ns yd,.bool q.sens,.int .i64 q.steps,.int .i64 q.paths,.int .i64 q.nodes,.int .i64 q.conf] 26)=W:=⟨_,rfl⟩
 have hb6:Below w5.heap.size w5 w6:=by rw [← hw6];exact (Below.refl _ _).alloc (Nat.le_refl _) _
 have HO6:=hid (show BxL 26 w5.heap.size [.slice ra nl ya,.slice rb no yb,.slice rc nc yc,.slice rd ns yd,.bool q.sens,.int .i64 q.steps,.int .i64 q.paths,.int .i64 q.nodes,.int .i64 q.conf] w6 from by rw [← hw6];exact BxL.new _ _ _)
 have HB6:=hid (HB5.out.trans (hb6.mono HB5.out.size));have HX6:=hid (HX5.out.bel hb6);have HY6:=hid (HY5.out.bel hb6);have HV6:=hid (HV5.out.below hb6);have HU6:=hid (HU5.out.below hb6)
 have HR6:=hid (((HG5.out.below hb6).pov HQL.out).weaken fun k hk=>hk.2)
 rw [hw6]
 clear hw6 hb6 HG5
 have n0:w6.cell? ⟨w5.heap.size,0,none⟩=some (.slice ra nl ya):=HO6.out.at 0 rfl
 have n1:w6.cell? ⟨w5.heap.size,1,none⟩=some (.slice rb no yb):=HO6.out.at 1 rfl
 have n2:w6.cell? ⟨w5.heap.size,2,none⟩=some (.slice rc nc yc):=HO6.out.at 2 rfl
 have n3:w6.cell? ⟨w5.heap.size,3,none⟩=some (.slice rd ns yd):=HO6.out.at 3 rfl
 have n4:w6.cell? ⟨w5.heap.size,4,none⟩=some (.bool q.sens):=HO6.out.at 4 rfl
 have n5:w6.cell? ⟨w5.heap.size,5,none⟩=some (.int .i64 q.steps):=HO6.out.at 5 rfl
 have n6:w6.cell? ⟨w5.heap.size,6,none⟩=some (.int .i64 q.paths):=HO6.out.at 6 rfl
 have n7:w6.cell? ⟨w5.heap.size,7,none⟩=some (.int .i64 q.nodes):=HO6.out.at 7 rfl
 have n8:w6.cell? ⟨w5.heap.size,8,none⟩=some (.int .i64 q.conf):=HO6.out.at 8 rfl
 go_upto_region 4 with (go_at_call 12;(with_reducible refine (HPR.out _ _ _ _ _ _ _ _ _ HB6.out HR6.out).mono ?_);rintro e w7 ⟨rfl,hb⟩;have HB7:=hid (HB6.out.trans (hb.mono HB6.out.size));have HX7:=hid (HX6.out.bel hb);have HY7:=hid (HY6.out.bel hb);have HO7:=hid (HO6.out.bel hb);have HV7:=hid (HV6.out.below hb);have HU7:=hid (HU6.out.below hb);have HR7:=hid (HR6.out.below hb);clear hb)
 clear n0 n1 n2 n3 n4 n5 n6 n7 n8
 have n0:w7.cell? ⟨w.heap.size,0,none⟩=some (.slice qa nl xa):=HX7.out.at 0 rfl
 have n1:w7.cell? ⟨w.heap.size,1,none⟩=some (.slice qb no xb):=HX7.out.at 1 rfl
 have n2:w7.cell? ⟨w.heap.size,2,none⟩=some (.slice qc nc xc):=HX7.out.at 2 rfl
 have n3:w7.cell? ⟨w.heap.size,3,none⟩=some (.slice qd ns xd):=HX7.out.at 3 rfl
 have n4:w7.cell? ⟨w.heap.size,4,none⟩=some (.bool q.sens):=HX7.out.at 4 rfl
 have n5:w7.cell? ⟨w.heap.size,5,none⟩=some (.int .i64 q.steps):=HX7.out.at 5 rfl
 have n6:w7.cell? ⟨w.heap.size,6,none⟩=some (.int .i64 q.paths):=HX7.out.at 6 rfl
 have n7:w7.cell? ⟨w.heap.size,7,none⟩=some (.int .i64 q.nodes):=HX7.out.at 7 rfl
 have n8:w7.cell? ⟨w.heap.size,8,none⟩=some (.int .i64 q.conf):=HX7.out.at 8 rfl
 go_upto_region 5 with (go_at_call 13;(with_reducible refine (HRP.out _ _ _ _ _ _ _ _ _ HV7.out).mono ?_);rintro e w8 ⟨rfl,hb⟩;have HBB8:=hid (HB7.out.trans (hb.mono HB7.out.size));have HX8:=hid (HX7.out.bel hb);have HY8:=hid (HY7.out.bel hb);have HO8:=hid (HO7.out.bel hb);have HV8:=hid (HV7.out.below hb);have HU8:=hid (HU7.out.below hb);have HR8:=hid (HR7.out.below hb);clear hb)
 clear n0 n1 n2 n3 n4 n5 n6 n7 n8
 obtain ⟨ck,hck⟩:∃ k,checkP q=k:=⟨_,rfl⟩
 obtain ⟨ev,hev⟩:∃ b,decide (q=q2)=b:=⟨_,rfl⟩
 have HB8:=hid (Below.refl w8.heap.size w8)
 have HCK:=hid (fun W (hW:Below w8.heap.size w8 W)=>show Calls Tryd.prog 7 #[.agg #[.slice ra nl ya,.slice rb no yb,.slice rc nc yc,.slice rd ns yd,.bool q.sens,.int .i64 q.steps,.int .i64 q.paths,.int .i64 q.nodes,.int .i64 q.conf]] W (fun e w'=>e = .returned (.int .i64 ck)∧Below W.heap.size W w') from by
  have h:=check_po q _ _ _ _ W (HR8.out.below hW) HQS.out (HE.out.keep (HBB8.out.trans (hW.mono HBB8.out.size))).po.bru
  rw [hck] at h
  exact h)
 have HRC:=hid (fun W (hW:Below w8.heap.size w8 W)=>show Calls Tryd.prog 14 #[.agg #[.slice qa nl xa,.slice qb no xb,.slice qc nc xc,.slice qd ns xd,.bool q.sens,.int .i64 q.steps,.int .i64 q.paths,.int .i64 q.nodes,.int .i64 q.conf]] W (fun e w'=>e = .returned (.int .i64 ck)∧Below W.heap.size W w') from by
  have h:=rcheck_po q _ _ _ _ W (HV8.out.below hW) HQS.out
  rw [hck] at h
  exact h)
 have HEQ:=hid (fun W (hW:Below w8.heap.size w8 W)=>show Calls Tryd.prog 15 #[.agg #[.slice ra nl ya,.slice rb no yb,.slice rc nc yc,.slice rd ns yd,.bool q.sens,.int .i64 q.steps,.int .i64 q.paths,.int .i64 q.nodes,.int .i64 q.conf],.agg #[.slice sa ml za,.slice sb mo zb,.slice sc mc zc,.slice sd ms zd,.bool q2.sens,.int .i64 q2.steps,.int .i64 q2.paths,.int .i64 q2.nodes,.int .i64 q2.conf]] W (fun e w'=>e = .returned (.bool ev)∧Below W.heap.size W w') from by
  have h:=eqpo_any q q2 _ _ _ _ _ _ _ _ W (HR8.out.below hW) (HU8.out.below hW)
  rw [hev] at h
  exact h)
 have HKE:=hid (fun W (hW:Below w8.heap.size w8 W)=>show Calls Tryd.prog 16 #[.agg #[.slice qa nl xa,.slice qb no xb,.slice qc nc xc,.slice qd ns xd,.bool q.sens,.int .i64 q.steps,.int .i64 q.paths,.int .i64 q.nodes,.int .i64 q.conf],.agg #[.slice sa ml za,.slice sb mo zb,.slice sc mc zc,.slice sd ms zd,.bool q2.sens,.int .i64 q2.steps,.int .i64 q2.paths,.int .i64 q2.nodes,.int .i64 q2.conf]] W (fun e w'=>e = .returned (.bool ev)∧Below W.heap.size W w') from by
  have h:=keqpo_any q q2 _ _ _ _ _ _ _ _ W (HV8.out.below hW) (HU8.out.below hW)
  rw [hev] at h
  exact h)
 have HEQ2:=hid (fun W (hW:Below w8.heap.size w8 W)=>show Calls Tryd.prog 15 #[.agg #[.slice ra nl ya,.slice rb no yb,.slice rc nc yc,.slice rd ns yd,.bool q.sens,.int .i64 q.steps,.int .i64 q.paths,.int .i64 q.nodes,.int .i64 q.conf],.agg #[.slice qa nl xa,.slice qb no xb,.slice qc nc xc,.slice qd ns xd,.bool q.sens,.int .i64 q.steps,.int .i64 q.paths,.int .i64 q.nodes,.int .i64 q.conf]] W (fun e w'=>e = .returned (.bool true)∧Below W.heap.size W w') from by
  have h:=eqpo_any q q _ _ _ _ _ _ _ _ W (HR8.out.below hW) (HV8.out.below hW)
  rw [decide_eq_true rfl] at h
  exact h)
 have HKE2:=hid (fun W (hW:Below w8.heap.size w8 W)=>show Calls Tryd.prog 16 #[.agg #[.slice ra nl ya,.slice rb no yb,.slice rc nc yc,.slice rd ns yd,.bool q.sens,.int .i64 q.steps,.int .i64 q.paths,.int .i64 q.nodes,.int .i64 q.conf],.agg #[.slice qa nl xa,.slice qb no xb,.slice qc nc xc,.slice qd ns xd,.bool q.sens,.int .i64 q.steps,.int .i64 q.paths,.int .i64 q.nodes,.int .i64 q.conf]] W (fun e w'=>e = .returned (.bool true)∧Below W.heap.size W w') from by
  have h:=keqpo_any q q _ _ _ _ _ _ _ _ W (HR8.out.below hW) (HV8.out.below hW)
  rw [decide_eq_true rfl] at h
  exact h)
 have HAW:=hid (fun W (hW:Below w8.heap.size w8 W)=>awake28_any W (HE.out.keep (HBB8.out.trans (hW.mono HBB8.out.size))))
 have HSW:=hid (show ∀ W,Below w8.heap.size w8 W→(fun W:World=>W.cell? ⟨w5.heap.size,0,none⟩=some (.slice ra nl ya)∧W.cell? ⟨w5.heap.size,1,none⟩=some (.slice rb no yb)∧W.cell? ⟨w5.heap.size,2,none⟩=some (.slice rc nc yc)∧W.cell? ⟨w5.heap.size,3,none⟩=some (.slice rd ns yd)∧W.cell? ⟨w5.heap.size,4,none⟩=some (.bool q.sens)∧W.cell? ⟨w5.heap.size,5,none⟩=some (.int .i64 q.steps)∧W.cell? ⟨w5.heap.size,6,none⟩=some (.int .i64 q.paths)∧W.cell? ⟨w5.heap.size,7,none⟩=some (.int .i64 q.nodes)∧W.cell? ⟨w5.heap.size,8,none⟩=some (.int .i64 q.conf)∧W.cell? ⟨w.heap.size,0,none⟩=some (.slice qa nl xa)∧W.cell? ⟨w.heap.size,1,none⟩=some (.slice qb no xb)∧W.cell? ⟨w.heap.size,2,none⟩=some (.slice qc nc xc)∧W.cell? ⟨w.heap.size,3,none⟩=some (.slice qd ns xd)∧W.cell? ⟨w.heap.size,4,none⟩=some (.bool q.sens)∧W.cell? ⟨w.heap.size,5,none⟩=some (.int .i64 q.steps)∧W.cell? ⟨w.heap.size,6,none⟩=some (.int .i64 q.paths)∧W.cell? ⟨w.heap.size,7,none⟩=some (.int .i64 q.nodes)∧W.cell? ⟨w.heap.size,8,none⟩=some (.int .i64 q.conf)∧W.cell? ⟨(w.heap.size+1),0,none⟩=some (.slice sa ml za)∧W.cell? ⟨(w.heap.size+1),1,none⟩=some (.slice sb mo zb)∧W.cell? ⟨(w.heap.size+1),2,none⟩=some (.slice sc mc zc)∧W.cell? ⟨(w.heap.size+1),3,none⟩=some (.slice sd ms zd)∧W.cell? ⟨(w.heap.size+1),4,none⟩=some (.bool q2.sens)∧W.cell? ⟨(w.heap.size+1),5,none⟩=some (.int .i64 q2.steps)∧W.cell? ⟨(w.heap.size+1),6,none⟩=some (.int .i64 q2.paths)∧W.cell? ⟨(w.heap.size+1),7,none⟩=some (.int .i64 q2.nodes)∧W.cell? ⟨(w.heap.size+1),8,none⟩=some (.int .i64 q2.conf)) W from fun W h=>⟨(HO8.out.bel h).at 0 rfl,(HO8.out.bel h).at 1 rfl,(HO8.out.bel h).at 2 rfl,(HO8.out.bel h).at 3 rfl,(HO8.out.bel h).at 4 rfl,(HO8.out.bel h).at 5 rfl,(HO8.out.bel h).at 6 rfl,(HO8.out.bel h).at 7 rfl,(HO8.out.bel h).at 8 rfl,(HX8.out.bel h).at 0 rfl,(HX8.out.bel h).at 1 rfl,(HX8.out.bel h).at 2 rfl,(HX8.out.bel h).at 3 rfl,(HX8.out.bel h).at 4 rfl,(HX8.out.bel h).at 5 rfl,(HX8.out.bel h).at 6 rfl,(HX8.out.bel h).at 7 rfl,(HX8.out.bel h).at 8 rfl,(HY8.out.bel h).at 0 rfl,(HY8.out.bel h).at 1 rfl,(HY8.out.bel h).at 2 rfl,(HY8.out.bel h).at 3 rfl,(HY8.out.bel h).at 4 rfl,(HY8.out.bel h).at 5 rfl,(HY8.out.bel h).at 6 rfl,(HY8.out.bel h).at 7 rfl,(HY8.out.bel h).at 8 rfl⟩)
 clear hck hev
 have hS:(fun W:World=>W.cell? ⟨w5.heap.size,0,none⟩=some (.slice ra nl ya)∧W.cell? ⟨w5.heap.size,1,none⟩=some (.slice rb no yb)∧W.cell? ⟨w5.heap.size,2,none⟩=some (.slice rc nc yc)∧W.cell? ⟨w5.heap.size,3,none⟩=some (.slice rd ns yd)∧W.cell? ⟨w5.heap.size,4,none⟩=some (.bool q.sens)∧W.cell? ⟨w5.heap.size,5,none⟩=some (.int .i64 q.steps)∧W.cell? ⟨w5.heap.size,6,none⟩=some (.int .i64 q.paths)∧W.cell? ⟨w5.heap.size,7,none⟩=some (.int .i64 q.nodes)∧W.cell? ⟨w5.heap.size,8,none⟩=some (.int .i64 q.conf)∧W.cell? ⟨w.heap.size,0,none⟩=some (.slice qa nl xa)∧W.cell? ⟨w.heap.size,1,none⟩=some (.slice qb no xb)∧W.cell? ⟨w.heap.size,2,none⟩=some (.slice qc nc xc)∧W.cell? ⟨w.heap.size,3,none⟩=some (.slice qd ns xd)∧W.cell? ⟨w.heap.size,4,none⟩=some (.bool q.sens)∧W.cell? ⟨w.heap.size,5,none⟩=some (.int .i64 q.steps)∧W.cell? ⟨w.heap.size,6,none⟩=some (.int .i64 q.paths)∧W.cell? ⟨w.heap.size,7,none⟩=some (.int .i64 q.nodes)∧W.cell? ⟨w.heap.size,8,none⟩=some (.int .i64 q.conf)∧W.cell? ⟨(w.heap.size+1),0,none⟩=some (.slice sa ml za)∧W.cell? ⟨(w.heap.size+1),1,none⟩=some (.slice sb mo zb)∧W.cell? ⟨(w.heap.size+1),2,none⟩=some (.slice sc mc zc)∧W.cell? ⟨(w.heap.size+1),3,none⟩=some (.slice sd ms zd)∧W.cell? ⟨(w.heap.size+1),4,none⟩=some (.bool q2.sens)∧W.cell? ⟨(w.heap.size+1),5,none⟩=some (.int .i64 q2.steps)∧W.cell? ⟨(w.heap.size+1),6,none⟩=some (.int .i64 q2.paths)∧W.cell? ⟨(w.heap.size+1),7,none⟩=some (.int .i64 q2.nodes)∧W.cell? ⟨(w.heap.size+1),8,none⟩=some (.int .i64 q2.conf)) w8.drew:=HSW.out _ HB8.out.drew
 have hFa:=fT
 refine rgN (fun W:World=>W.cell? ⟨w5.heap.size,0,none⟩=some (.slice ra nl ya)∧W.cell? ⟨w5.heap.size,1,none⟩=some (.slice rb no yb)∧W.cell? ⟨w5.heap.size,2,none⟩=some (.slice rc nc yc)∧W.cell? ⟨w5.heap.size,3,none⟩=some (.slice rd ns yd)∧W.cell? ⟨w5.heap.size,4,none⟩=some (.bool q.sens)∧W.cell? ⟨w5.heap.size,5,none⟩=some (.int .i64 q.steps)∧W.cell? ⟨w5.heap.size,6,none⟩=some (.int .i64 q.paths)∧W.cell? ⟨w5.heap.size,7,none⟩=some (.int .i64 q.nodes)∧W.cell? ⟨w5.heap.size,8,none⟩=some (.int .i64 q.conf)∧W.cell? ⟨w.heap.size,0,none⟩=some (.slice qa nl xa)∧W.cell? ⟨w.heap.size,1,none⟩=some (.slice qb no xb)∧W.cell? ⟨w.heap.size,2,none⟩=some (.slice qc nc xc)∧W.cell? ⟨w.heap.size,3,none⟩=some (.slice qd ns xd)∧W.cell? ⟨w.heap.size,4,none⟩=some (.bool q.sens)∧W.cell? ⟨w.heap.size,5,none⟩=some (.int .i64 q.steps)∧W.cell? ⟨w.heap.size,6,none⟩=some (.int .i64 q.paths)∧W.cell? ⟨w.heap.size,7,none⟩=some (.int .i64 q.nodes)∧W.cell? ⟨w.heap.size,8,none⟩=some (.int .i64 q.conf)∧W.cell? ⟨(w.heap.size+1),0,none⟩=some (.slice sa ml za)∧W.cell? ⟨(w.heap.size+1),1,none⟩=some (.slice sb mo zb)∧W.cell? ⟨(w.heap.size+1),2,none⟩=some (.slice sc mc zc)∧W.cell? ⟨(w.heap.size+1),3,none⟩=some (.slice sd ms zd)∧W.cell? ⟨(w.heap.size+1),4,none⟩=some (.bool q2.sens)∧W.cell? ⟨(w.heap.size+1),5,none⟩=some (.int .i64 q2.steps)∧W.cell? ⟨(w.heap.size+1),6,none⟩=some (.int .i64 q2.paths)∧W.cell? ⟨(w.heap.size+1),7,none⟩=some (.int .i64 q2.nodes)∧W.cell? ⟨(w.heap.size+1),8,none⟩=some (.int .i64 q2.conf)) 37 (by kernel_rfl) ?_
 simp only [List.size_toArray,List.length_cons,List.length_nil,Nat.reduceAdd]
 (refine wpHJ_nx (v:=?_) 38 rfl rfl (by kernel_rfl) nE hS ?_ ?_;rotate_left;(focus refine Or.inl ⟨by rfl,?_⟩;rintro w' ⟨s0,s1,s2,s3,s4,s5,s6,s7,s8,s9,s10,s11,s12,s13,s14,s15,s16,s17,s18,s19,s20,s21,s22,s23,s24,s25,s26⟩;(try go_simp);try rfl);simp only [Act.put,actP,actQ])
 (refine wpHJ_nx (v:=?_) 39 rfl rfl (by kernel_rfl) nE hS ?_ ?_;rotate_left;(focus refine Or.inl ⟨by rfl,?_⟩;rintro w' ⟨s0,s1,s2,s3,s4,s5,s6,s7,s8,s9,s10,s11,s12,s13,s14,s15,s16,s17,s18,s19,s20,s21,s22,s23,s24,s25,s26⟩;(try go_simp);try rfl);simp only [Act.put,actP,actQ])
 refine wpHJ_only 1 (by kernel_rfl) rfl (fun K hK=>?_)
 go_simp
 (with_reducible refine (callsIn_wide.2 (HCK.out _ HB8.out.drew)).mono ?_)
 rintro e w9 ⟨rfl,hb⟩
 have HB9:=hid (HB8.out.drew.trans (hb.mono HB8.out.drew.size))
 clear hb
 have hS9:(fun W:World=>W.cell? ⟨w5.heap.size,0,none⟩=some (.slice ra nl ya)∧W.cell? ⟨w5.heap.size,1,none⟩=some (.slice rb no yb)∧W.cell? ⟨w5.heap.size,2,none⟩=some (.slice rc nc yc)∧W.cell? ⟨w5.heap.size,3,none⟩=some (.slice rd ns yd)∧W.cell? ⟨w5.heap.size,4,none⟩=some (.bool q.sens)∧W.cell? ⟨w5.heap.size,5,none⟩=some (.int .i64 q.steps)∧W.cell? ⟨w5.heap.size,6,none⟩=some (.int .i64 q.paths)∧W.cell? ⟨w5.heap.size,7,none⟩=some (.int .i64 q.nodes)∧W.cell? ⟨w5.heap.size,8,none⟩=some (.int .i64 q.conf)∧W.cell? ⟨w.heap.size,0,none⟩=some (.slice qa nl xa)∧W.cell? ⟨w.heap.size,1,none⟩=some (.slice qb no xb)∧W.cell? ⟨w.heap.size,2,none⟩=some (.slice qc nc xc)∧W.cell? ⟨w.heap.size,3,none⟩=some (.slice qd ns xd)∧W.cell? ⟨w.heap.size,4,none⟩=some (.bool q.sens)∧W.cell? ⟨w.heap.size,5,none⟩=some (.int .i64 q.steps)∧W.cell? ⟨w.heap.size,6,none⟩=some (.int .i64 q.paths)∧W.cell? ⟨w.heap.size,7,none⟩=some (.int .i64 q.nodes)∧W.cell? ⟨w.heap.size,8,none⟩=some (.int .i64 q.conf)∧W.cell? ⟨(w.heap.size+1),0,none⟩=some (.slice sa ml za)∧W.cell? ⟨(w.heap.size+1),1,none⟩=some (.slice sb mo zb)∧W.cell? ⟨(w.heap.size+1),2,none⟩=some (.slice sc mc zc)∧W.cell? ⟨(w.heap.size+1),3,none⟩=some (.slice sd ms zd)∧W.cell? ⟨(w.heap.size+1),4,none⟩=some (.bool q2.sens)∧W.cell? ⟨(w.heap.size+1),5,none⟩=some (.int .i64 q2.steps)∧W.cell? ⟨(w.heap.size+1),6,none⟩=some (.int .i64 q2.paths)∧W.cell? ⟨(w.heap.size+1),7,none⟩=some (.int .i64 q2.nodes)∧W.cell? ⟨(w.heap.size+1),8,none⟩=some (.int .i64 q2.conf)) w9:=HSW.out _ HB9.out
 refine hK _ _ (.inr (.inr hS9)) ?_
 clear hK K
 refine wpHJ_only 3 (by kernel_rfl) rfl (fun K hK=>?_)
 go_simp
 (with_reducible refine (callsIn_wide.2 (HRC.out _ HB9.out)).mono ?_)
 rintro e w10 ⟨rfl,hb⟩
 have HB10:=hid (HB9.out.trans (hb.mono HB9.out.size))
 clear hb
 have hS10:(fun W:World=>W.cell? ⟨w5.heap.size,0,none⟩=some (.slice ra nl ya)∧W.cell? ⟨w5.heap.size,1,none⟩=some (.slice rb no yb)∧W.cell? ⟨w5.heap.size,2,none⟩=some (.slice rc nc yc)∧W.cell? ⟨w5.heap.size,3,none⟩=some (.slice rd ns yd)∧W.cell? ⟨w5.heap.size,4,none⟩=some (.bool q.sens)∧W.cell? ⟨w5.heap.size,5,none⟩=some (.int .i64 q.steps)∧W.cell? ⟨w5.heap.size,6,none⟩=some (.int .i64 q.paths)∧W.cell? ⟨w5.heap.size,7,none⟩=some (.int .i64 q.nodes)∧W.cell? ⟨w5.heap.size,8,none⟩=some (.int .i64 q.conf)∧W.cell? ⟨w.heap.size,0,none⟩=some (.slice qa nl xa)∧W.cell? ⟨w.heap.size,1,none⟩=some (.slice qb no xb)∧W.cell? ⟨w.heap.size,2,none⟩=some (.slice qc nc xc)∧W.cell? ⟨w.heap.size,3,none⟩=some (.slice qd ns xd)∧W.cell? ⟨w.heap.size,4,none⟩=some (.bool q.sens)∧W.cell? ⟨w.heap.size,5,none⟩=some (.int .i64 q.steps)∧W.cell? ⟨w.heap.size,6,none⟩=some (.int .i64 q.paths)∧W.cell? ⟨w.heap.size,7,none⟩=some (.int .i64 q.nodes)∧W.cell? ⟨w.heap.size,8,none⟩=some (.int .i64 q.conf)∧W.cell? ⟨(w.heap.size+1),0,none⟩=some (.slice sa ml za)∧W.cell? ⟨(w.heap.size+1),1,none⟩=some (.slice sb mo zb)∧W.cell? ⟨(w.heap.size+1),2,none⟩=some (.slice sc mc zc)∧W.cell? ⟨(w.heap.size+1),3,none⟩=some (.slice sd ms zd)∧W.cell? ⟨(w.heap.size+1),4,none⟩=some (.bool q2.sens)∧W.cell? ⟨(w.heap.size+1),5,none⟩=some (.int .i64 q2.steps)∧W.cell? ⟨(w.heap.size+1),6,none⟩=some (.int .i64 q2.paths)∧W.cell? ⟨(w.heap.size+1),7,none⟩=some (.int .i64 q2.nodes)∧W.cell? ⟨(w.heap.size+1),8,none⟩=some (.int .i64 q2.conf)) w10:=HSW.out _ HB10.out
 refine hK _ _ (.inr (.inr hS10)) ?_
 clear hK K
 iterate 14 (refine wpHJ_nx (v:=?_) 38 rfl rfl (by kernel_rfl) nE hS10 ?_ ?_;rotate_left;(focus refine Or.inl ⟨by simp [Region.wanted,yielded,undef],?_⟩;rintro w' ⟨s0,s1,s2,s3,s4,s5,s6,s7,s8,s9,s10,s11,s12,s13,s14,s15,s16,s17,s18,s19,s20,s21,s22,s23,s24,s25,s26⟩;(try go_simp);try rfl);simp only [Act.put,actP,actQ])
 iterate 2 (refine wpHJ_nx (v:=?_) 39 rfl rfl (by kernel_rfl) nE hS10 ?_ ?_;rotate_left;(focus refine Or.inl ⟨by simp [Region.wanted,yielded,undef],?_⟩;rintro w' ⟨s0,s1,s2,s3,s4,s5,s6,s7,s8,s9,s10,s11,s12,s13,s14,s15,s16,s17,s18,s19,s20,s21,s22,s23,s24,s25,s26⟩;(try go_simp);try rfl);simp only [Act.put,actP,actQ])
 refine wpHJ_only 18 (by kernel_rfl) rfl (fun K hK=>?_)
 rw [if_pos (by simp [Region.wanted,yielded,undef])]
 go_simp
 (with_reducible refine (callsIn_wide.2 (HEQ.out _ HB10.out)).mono ?_)
 rintro e w11 ⟨rfl,hb⟩
 have HB11:=hid (HB10.out.trans (hb.mono HB10.out.size))
 clear hb
 have hS11:(fun W:World=>W.cell? ⟨w5.heap.size,0,none⟩=some (.slice ra nl ya)∧W.cell? ⟨w5.heap.size,1,none⟩=some (.slice rb no yb)∧W.cell? ⟨w5.heap.size,2,none⟩=some (.slice rc nc yc)∧W.cell? ⟨w5.heap.size,3,none⟩=some (.slice rd ns yd)∧W.cell? ⟨w5.heap.size,4,none⟩=some (.bool q.sens)∧W.cell? ⟨w5.heap.size,5,none⟩=some (.int .i64 q.steps)∧W.cell? ⟨w5.heap.size,6,none⟩=some (.int .i64 q.paths)∧W.cell? ⟨w5.heap.size,7,none⟩=some (.int .i64 q.nodes)∧W.cell? ⟨w5.heap.size,8,none⟩=some (.int .i64 q.conf)∧W.cell? ⟨w.heap.size,0,none⟩=some (.slice qa nl xa)∧W.cell? ⟨w.heap.size,1,none⟩=some (.slice qb no xb)∧W.cell? ⟨w.heap.size,2,none⟩=some (.slice qc nc xc)∧W.cell? ⟨w.heap.size,3,none⟩=some (.slice qd ns xd)∧W.cell? ⟨w.heap.size,4,none⟩=some (.bool q.sens)∧W.cell? ⟨w.heap.size,5,none⟩=some (.int .i64 q.steps)∧W.cell? ⟨w.heap.size,6,none⟩=some (.int .i64 q.paths)∧W.cell? ⟨w.heap.size,7,none⟩=some (.int .i64 q.nodes)∧W.cell? ⟨w.heap.size,8,none⟩=some (.int .i64 q.conf)∧W.cell? ⟨(w.heap.size+1),0,none⟩=some (.slice sa ml za)∧W.cell? ⟨(w.heap.size+1),1,none⟩=some (.slice sb mo zb)∧W.cell? ⟨(w.heap.size+1),2,none⟩=some (.slice sc mc zc)∧W.cell? ⟨(w.heap.size+1),3,none⟩=some (.slice sd ms zd)∧W.cell? ⟨(w.heap.size+1),4,none⟩=some (.bool q2.sens)∧W.cell? ⟨(w.heap.size+1),5,none⟩=some (.int .i64 q2.steps)∧W.cell? ⟨(w.heap.size+1),6,none⟩=some (.int .i64 q2.paths)∧W.cell? ⟨(w.heap.size+1),7,none⟩=some (.int .i64 q2.nodes)∧W.cell? ⟨(w.heap.size+1),8,none⟩=some (.int .i64 q2.conf)) w11:=HSW.out _ HB11.out
 refine hK _ _ (.inr (.inr hS11)) ?_
 clear hK K
 refine wpHJ_only 21 (by kernel_rfl) rfl (fun K hK=>?_)
 rw [if_pos (by simp [Region.wanted,yielded,undef])]
 go_simp
 (with_reducible refine (callsIn_wide.2 (HKE.out _ HB11.out)).mono ?_)
 rintro e w12 ⟨rfl,hb⟩
 have HB12:=hid (HB11.out.trans (hb.mono HB11.out.size))
 clear hb
 have hS12:(fun W:World=>W.cell? ⟨w5.heap.size,0,none⟩=some (.slice ra nl ya)∧W.cell? ⟨w5.heap.size,1,none⟩=some (.slice rb no yb)∧W.cell? ⟨w5.heap.size,2,none⟩=some (.slice rc nc yc)∧W.cell? ⟨w5.heap.size,3,none⟩=some (.slice rd ns yd)∧W.cell? ⟨w5.heap.size,4,none⟩=some (.bool q.sens)∧W.cell? ⟨w5.heap.size,5,none⟩=some (.int .i64 q.steps)∧W.cell? ⟨w5.heap.size,6,none⟩=some (.int .i64 q.paths)∧W.cell? ⟨w5.heap.size,7,none⟩=some (.int .i64 q.nodes)∧W.cell? ⟨w5.heap.size,8,none⟩=some (.int .i64 q.conf)∧W.cell? ⟨w.heap.size,0,none⟩=some (.slice qa nl xa)∧W.cell? ⟨w.heap.size,1,none⟩=some (.slice qb no xb)∧W.cell? ⟨w.heap.size,2,none⟩=some (.slice qc nc xc)∧W.cell? ⟨w.heap.size,3,none⟩=some (.slice qd ns xd)∧W.cell? ⟨w.heap.size,4,none⟩=some (.bool q.sens)∧W.cell? ⟨w.heap.size,5,none⟩=some (.int .i64 q.steps)∧W.cell? ⟨w.heap.size,6,none⟩=some (.int .i64 q.paths)∧W.cell? ⟨w.heap.size,7,none⟩=some (.int .i64 q.nodes)∧W.cell? ⟨w.heap.size,8,none⟩=some (.int .i64 q.conf)∧W.cell? ⟨(w.heap.size+1),0,none⟩=some (.slice sa ml za)∧W.cell? ⟨(w.heap.size+1),1,none⟩=some (.slice sb mo zb)∧W.cell? ⟨(w.heap.size+1),2,none⟩=some (.slice sc mc zc)∧W.cell? ⟨(w.heap.size+1),3,none⟩=some (.slice sd ms zd)∧W.cell? ⟨(w.heap.size+1),4,none⟩=some (.bool q2.sens)∧W.cell? ⟨(w.heap.size+1),5,none⟩=some (.int .i64 q2.steps)∧W.cell? ⟨(w.heap.size+1),6,none⟩=some (.int .i64 q2.paths)∧W.cell? ⟨(w.heap.size+1),7,none⟩=some (.int .i64 q2.nodes)∧W.cell? ⟨(w.heap.size+1),8,none⟩=some (.int .i64 q2.conf)) w12:=HSW.out _ HB12.out
 refine hK _ _ (.inr (.inr hS12)) ?_
 clear hK K
 iterate 5 (refine wpHJ_nx (v:=?_) 38 rfl rfl (by kernel_rfl) nE hS12 ?_ ?_;rotate_left;(focus refine Or.inl ⟨by simp [Region.wanted,yielded,undef],?_⟩;rintro w' ⟨s0,s1,s2,s3,s4,s5,s6,s7,s8,s9,s10,s11,s12,s13,s14,s15,s16,s17,s18,s19,s20,s21,s22,s23,s24,s25,s26⟩;(try go_simp);try rfl);simp only [Act.put,actP,actQ])
 refine wpHJ_only 27 (by kernel_rfl) rfl (fun K hK=>?_)
 rw [if_pos (by simp [Region.wanted,yielded,undef])]
 go_simp
 (with_reducible refine (callsIn_wide.2 (HEQ2.out _ HB12.out)).mono ?_)
 rintro e w13 ⟨rfl,hb⟩
 have HB13:=hid (HB12.out.trans (hb.mono HB12.out.size))
 clear hb
 have hS13:(fun W:World=>W.cell? ⟨w5.heap.size,0,none⟩=some (.slice ra nl ya)∧W.cell? ⟨w5.heap.size,1,none⟩=some (.slice rb no yb)∧W.cell? ⟨w5.heap.size,2,none⟩=some (.slice rc nc yc)∧W.cell? ⟨w5.heap.size,3,none⟩=some (.slice rd ns yd)∧W.cell? ⟨w5.heap.size,4,none⟩=some (.bool q.sens)∧W.cell? ⟨w5.heap.size,5,none⟩=some (.int .i64 q.steps)∧W.cell? ⟨w5.heap.size,6,none⟩=some (.int .i64 q.paths)∧W.cell? ⟨w5.heap.size,7,none⟩=some (.int .i64 q.nodes)∧W.cell? ⟨w5.heap.size,8,none⟩=some (.int .i64 q.conf)∧W.cell? ⟨w.heap.size,0,none⟩=some (.slice qa nl xa)∧W.cell? ⟨w.heap.size,1,none⟩=some (.slice qb no xb)∧W.cell? ⟨w.heap.size,2,none⟩=some (.slice qc nc xc)∧W.cell? ⟨w.heap.size,3,none⟩=some (.slice qd ns xd)∧W.cell? ⟨w.heap.size,4,none⟩=some (.bool q.sens)∧W.cell? ⟨w.heap.size,5,none⟩=some (.int .i64 q.steps)∧W.cell? ⟨w.heap.size,6,none⟩=some (.int .i64 q.paths)∧W.cell? ⟨w.heap.size,7,none⟩=some (.int .i64 q.nodes)∧W.cell? ⟨w.heap.size,8,none⟩=some (.int .i64 q.conf)∧W.cell? ⟨(w.heap.size+1),0,none⟩=some (.slice sa ml za)∧W.cell? ⟨(w.heap.size+1),1,none⟩=some (.slice sb mo zb)∧W.cell? ⟨(w.heap.size+1),2,none⟩=some (.slice sc mc zc)∧W.cell? ⟨(w.heap.size+1),3,none⟩=some (.slice sd ms zd)∧W.cell? ⟨(w.heap.size+1),4,none⟩=some (.bool q2.sens)∧W.cell? ⟨(w.heap.size+1),5,none⟩=some (.int .i64 q2.steps)∧W.cell? ⟨(w.heap.size+1),6,none⟩=some (.int .i64 q2.paths)∧W.cell? ⟨(w.heap.size+1),7,none⟩=some (.int .i64 q2.nodes)∧W.cell? ⟨(w.heap.size+1),8,none⟩=some (.int .i64 q2.conf)) w13:=HSW.out _ HB13.out
 refine hK _ _ (.inr (.inr hS13)) ?_
 clear hK K
 iterate 4 (refine wpHJ_nx (v:=?_) 38 rfl rfl (by kernel_rfl) nE hS13 ?_ ?_;rotate_left;(focus refine Or.inl ⟨by simp [Region.wanted,yielded,undef],?_⟩;rintro w' ⟨s0,s1,s2,s3,s4,s5,s6,s7,s8,s9,s10,s11,s12,s13,s14,s15,s16,s17,s18,s19,s20,s21,s22,s23,s24,s25,s26⟩;(try go_simp);try rfl);simp only [Act.put,actP,actQ])
 refine wpHJ_only 32 (by kernel_rfl) rfl (fun K hK=>?_)
 rw [if_pos (by simp [Region.wanted,yielded,undef])]
 go_simp
 (with_reducible refine (callsIn_wide.2 (HKE2.out _ HB13.out)).mono ?_)
 rintro e w14 ⟨rfl,hb⟩
 have HB14:=hid (HB13.out.trans (hb.mono HB13.out.size))
 clear hb
 have hS14:(fun W:World=>W.cell? ⟨w5.heap.size,0,none⟩=some (.slice ra nl ya)∧W.cell? ⟨w5.heap.size,1,none⟩=some (.slice rb no yb)∧W.cell? ⟨w5.heap.size,2,none⟩=some (.slice rc nc yc)∧W.cell? ⟨w5.heap.size,3,none⟩=some (.slice rd ns yd)∧W.cell? ⟨w5.heap.size,4,none⟩=some (.bool q.sens)∧W.cell? ⟨w5.heap.size,5,none⟩=some (.int .i64 q.steps)∧W.cell? ⟨w5.heap.size,6,none⟩=some (.int .i64 q.paths)∧W.cell? ⟨w5.heap.size,7,none⟩=some (.int .i64 q.nodes)∧W.cell? ⟨w5.heap.size,8,none⟩=some (.int .i64 q.conf)∧W.cell? ⟨w.heap.size,0,none⟩=some (.slice qa nl xa)∧W.cell? ⟨w.heap.size,1,none⟩=some (.slice qb no xb)∧W.cell? ⟨w.heap.size,2,none⟩=some (.slice qc nc xc)∧W.cell? ⟨w.heap.size,3,none⟩=some (.slice qd ns xd)∧W.cell? ⟨w.heap.size,4,none⟩=some (.bool q.sens)∧W.cell? ⟨w.heap.size,5,none⟩=some (.int .i64 q.steps)∧W.cell? ⟨w.heap.size,6,none⟩=some (.int .i64 q.paths)∧W.cell? ⟨w.heap.size,7,none⟩=some (.int .i64 q.nodes)∧W.cell? ⟨w.heap.size,8,none⟩=some (.int .i64 q.conf)∧W.cell? ⟨(w.heap.size+1),0,none⟩=some (.slice sa ml za)∧W.cell? ⟨(w.heap.size+1),1,none⟩=some (.slice sb mo zb)∧W.cell? ⟨(w.heap.size+1),2,none⟩=some (.slice sc mc zc)∧W.cell? ⟨(w.heap.size+1),3,none⟩=some (.slice sd ms zd)∧W.cell? ⟨(w.heap.size+1),4,none⟩=some (.bool q2.sens)∧W.cell? ⟨(w.heap.size+1),5,none⟩=some (.int .i64 q2.steps)∧W.cell? ⟨(w.heap.size+1),6,none⟩=some (.int .i64 q2.paths)∧W.cell? ⟨(w.heap.size+1),7,none⟩=some (.int .i64 q2.nodes)∧W.cell? ⟨(w.heap.size+1),8,none⟩=some (.int .i64 q2.conf)) w14:=HSW.out _ HB14.out
 refine hK _ _ (.inr (.inr hS14)) ?_
 clear hK K
 iterate 2 (refine wpHJ_nx (v:=?_) 38 rfl rfl (by kernel_rfl) nE hS14 ?_ ?_;rotate_left;(focus refine Or.inl ⟨by rfl,?_⟩;rintro w' ⟨s0,s1,s2,s3,s4,s5,s6,s7,s8,s9,s10,s11,s12,s13,s14,s15,s16,s17,s18,s19,s20,s21,s22,s23,s24,s25,s26⟩;(try go_simp);try rfl);simp only [Act.put,actP,actQ])
 refine wpHJ_only 35 (by kernel_rfl) rfl (fun K hK=>?_)
 rw [if_pos (by simp [Region.wanted,yielded,undef])]
 go_simp
 (with_reducible refine (callsIn_wide.2 (HAW.out _ HB14.out)).mono ?_)
 rintro e w15 ⟨rfl,hb⟩
 have HB15:=hid (HB14.out.trans (hb.mono HB14.out.size))
 clear hb
 have hS15:(fun W:World=>W.cell? ⟨w5.heap.size,0,none⟩=some (.slice ra nl ya)∧W.cell? ⟨w5.heap.size,1,none⟩=some (.slice rb no yb)∧W.cell? ⟨w5.heap.size,2,none⟩=some (.slice rc nc yc)∧W.cell? ⟨w5.heap.size,3,none⟩=some (.slice rd ns yd)∧W.cell? ⟨w5.heap.size,4,none⟩=some (.bool q.sens)∧W.cell? ⟨w5.heap.size,5,none⟩=some (.int .i64 q.steps)∧W.cell? ⟨w5.heap.size,6,none⟩=some (.int .i64 q.paths)∧W.cell? ⟨w5.heap.size,7,none⟩=some (.int .i64 q.nodes)∧W.cell? ⟨w5.heap.size,8,none⟩=some (.int .i64 q.conf)∧W.cell? ⟨w.heap.size,0,none⟩=some (.slice qa nl xa)∧W.cell? ⟨w.heap.size,1,none⟩=some (.slice qb no xb)∧W.cell? ⟨w.heap.size,2,none⟩=some (.slice qc nc xc)∧W.cell? ⟨w.heap.size,3,none⟩=some (.slice qd ns xd)∧W.cell? ⟨w.heap.size,4,none⟩=some (.bool q.sens)∧W.cell? ⟨w.heap.size,5,none⟩=some (.int .i64 q.steps)∧W.cell? ⟨w.heap.size,6,none⟩=some (.int .i64 q.paths)∧W.cell? ⟨w.heap.size,7,none⟩=some (.int .i64 q.nodes)∧W.cell? ⟨w.heap.size,8,none⟩=some (.int .i64 q.conf)∧W.cell? ⟨(w.heap.size+1),0,none⟩=some (.slice sa ml za)∧W.cell? ⟨(w.heap.size+1),1,none⟩=some (.slice sb mo zb)∧W.cell? ⟨(w.heap.size+1),2,none⟩=some (.slice sc mc zc)∧W.cell? ⟨(w.heap.size+1),3,none⟩=some (.slice sd ms zd)∧W.cell? ⟨(w.heap.size+1),4,none⟩=some (.bool q2.sens)∧W.cell? ⟨(w.heap.size+1),5,none⟩=some (.int .i64 q2.steps)∧W.cell? ⟨(w.heap.size+1),6,none⟩=some (.int .i64 q2.paths)∧W.cell? ⟨(w.heap.size+1),7,none⟩=some (.int .i64 q2.nodes)∧W.cell? ⟨(w.heap.size+1),8,none⟩=some (.int .i64 q2.conf)) w15:=HSW.out _ HB15.out
 refine hK _ _ (.inr (.inr hS15)) ?_
 clear hK K
 (refine wpHJ_nx (v:=?_) 38 rfl rfl (by kernel_rfl) nE hS15 ?_ ?_;rotate_left;(focus refine Or.inl ⟨by rfl,?_⟩;rintro w' ⟨s0,s1,s2,s3,s4,s5,s6,s7,s8,s9,s10,s11,s12,s13,s14,s15,s16,s17,s18,s19,s20,s21,s22,s23,s24,s25,s26⟩;(try go_simp);try rfl);simp only [Act.put,actP,actQ])
 refine wpHJ_only 37 (by kernel_rfl) rfl (fun K hK=>?_)
 go_simp
 refine hK _ _ (.inl rfl) ?_
 clear hK K
 refine wpHJ_done (by kernel_rfl) ?_ _
 simp only [onlyN,Exit.then]
 clear hFa
 clear hS hS9 hS10 hS11 hS12 hS13 hS14 hS15
 go_wp2_with fail
 go_ret
 exact ⟨rfl,HBB8.out.trans (HB15.out.mono HBB8.out.size)⟩
end Go.Proofs.YtbijamcoibonkaaDoor
