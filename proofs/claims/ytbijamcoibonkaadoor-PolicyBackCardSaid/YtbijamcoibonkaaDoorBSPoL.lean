/-
 The law PolicyBack.
-/
import Derived.Test.YtbijamcoibonkaaDoorBB44
import Derived.Test.YtbijamcoibonkaaDoorBSPoZ
import Derived.Deep.DeepCutAuto
namespace Go.Proofs.YtbijamcoibonkaaDoor
set_option linter.unusedSimpArgs false
set_option linter.unusedVariables false
open Go.RowKit Go.Shelf
attribute [local go_sem] Oper.semAt_some
set_option maxRecDepth 100000 in
set_option maxHeartbeats 4000000 in
theorem policyBack_any (p:Po) (a b c d:Value) (sb:ByteArray) (w:World) (hp:PoV (·<w.heap.size) w a b c d p) (hs:PoS p) (hszb:sb.size≤9223372036854775807) (hE:E28 w) :
  Calls Tryd.prog 5 #[.agg (poL a b c d p).toArray,.string sb] w fun e w'=>e = .returned (.bool true)∧Below w.heap.size w w':=by
 obtain ⟨pa,ca,rfl⟩:=hp.1.slc
 obtain ⟨pb,cb,rfl⟩:=hp.2.1.slc
 obtain ⟨pc,cc,rfl⟩:=hp.2.2.1.slc
 obtain ⟨pd,cd,rfl⟩:=hp.2.2.2.slc
 have hx:(sb.extract 0 (min (↑sb.size) 2000:Int).toNat).size≤2000:=by
  show (sb.extract 0 _).data.size≤2000
  rw [ByteArray.data_extract,Array.size_extract];omega
 obtain ⟨l,hl⟩:∃ l:Bs,sb.extract 0 (min (↑sb.size) 2000:Int).toNat=⟨l.toArray⟩:=⟨(sb.extract 0 (min (↑sb.size) 2000:Int).toNat).data.toList,rfl⟩
 rw [hl] at hx
 have HLL:=hid (show l.length≤2000 from hx)
 have HSB:=hid hl
 have HTWO:=hid (show (∃ x y fe,parseP l=(po0,(x,y),fe)∧fe ≠ 0∧InT (rowsNL l) (x,y))∨∃ p2,parseP l=(p2,(0,0),0)∧checkP p2=0∧(textP p2).length≤65536 from by
  cases hq:parseQ l with
  | error f =>
   obtain ⟨⟨x,y⟩,fe⟩:=f
   exact .inl ⟨x,y,fe,by unfold parseP;rw [hq],(refused_inP hq).2,(refused_inP hq).1⟩
  | ok p2 =>
   have h:=read_okP hq
   have:=HLL.out
   exact .inr ⟨p2,by unfold parseP;rw [hq],h.1,by omega⟩)
 have hm0:(0:Int)≤min (sb.size:Int) 2000:=by omega
 have hm1:min (sb.size:Int) 2000≤(sb.size:Int):=by omega
 obtain ⟨q,hq⟩:∃ q,fewPo p=q:=⟨_,rfl⟩
 have hqs:=few_s hs
 have hql:=few_lenPo p
 rw [hq] at hqs hql
 obtain ⟨nl,hnl⟩:∃ n,q.lv.length=n:=⟨_,rfl⟩
 obtain ⟨no,hno⟩:∃ n,q.od.length=n:=⟨_,rfl⟩
 obtain ⟨nc,hnc⟩:∃ n,q.ch.length=n:=⟨_,rfl⟩
 obtain ⟨ns,hns⟩:∃ n,q.st.length=n:=⟨_,rfl⟩
 obtain ⟨ck,hck⟩:∃ k,checkP q=k:=⟨_,rfl⟩
 obtain ⟨T,E,hTE⟩:∃ T E,printP q=(T,E):=⟨_,_,rfl⟩
 have hw0:w.drew.alloc (.cells #[.slice pa p.lv.length ca,.slice pb p.od.length cb,.slice pc p.ch.length cc,.slice pd p.st.length cd,.bool p.sens,.int .i64 p.steps,.int .i64 p.paths,.int .i64 p.nodes,.int .i64 p.conf] 26)=(w.alloc (.cells #[.slice pa p.lv.length ca,.slice pb p.od.length cb,.slice pc p.ch.length cc,.slice pd p.st.length cd,.bool p.sens,.int .i64 p.steps,.int .i64 p.paths,.int .i64 p.nodes,.int .i64 p.conf] 26)).drew:=rfl
 have HX0:=hid (show BxL 26 w.heap.size [.slice pa p.lv.length ca,.slice pb p.od.length cb,.slice pc p.ch.length cc,.slice pd p.st.length cd,.bool p.sens,.int .i64 p.steps,.int .i64 p.paths,.int .i64 p.nodes,.int .i64 p.conf] (w.alloc (.cells #[.slice pa p.lv.length ca,.slice pb p.od.length cb,.slice pc p.ch.length cc,.slice pd p.st.length cd,.bool p.sens,.int .i64 p.steps,.int .i64 p.paths,.int .i64 p.nodes,.int .i64 p.conf] 26)).drew from BxL.new _ _ _)
 have HB0:=hid (show Below w.heap.size w (w.alloc (.cells #[.slice pa p.lv.length ca,.slice pb p.od.length cb,.slice pc p.ch.length cc,.slice pd p.st.length cd,.bool p.sens,.int .i64 p.steps,.int .i64 p.paths,.int .i64 p.nodes,.int .i64 p.conf] 26)).drew from ((Below.refl _ _).alloc (Nat.le_refl _) _).drew)
 have HFW:=hid (fun W (hW:Below w.heap.size w W)=>few_w p q hq nl no nc ns hnl hno hnc hns (.slice pa p.lv.length ca) (.slice pb p.od.length cb) (.slice pc p.ch.length cc) (.slice pd p.st.length cd) W (hp.below hW))
 have HCK:=hid (fun (qa qb qc qd:Option Addr) (xa xb xc xd:Nat) W (hW:Below w.heap.size w W) (hv:PoV (·<W.heap.size) W (.slice qa nl xa) (.slice qb no xb) (.slice qc nc xc) (.slice qd ns xd) q)=>check_w q ck hck (.slice qa nl xa) (.slice qb no xb) (.slice qc nc xc) (.slice qd ns xd) W hv hqs (hE.keep hW))
 have HPQ:=hid (fun (qa qb qc qd:Option Addr) (xa xb xc xd:Nat) W (hW:Below w.heap.size w W) (hv:PoV (·<W.heap.size) W (.slice qa nl xa) (.slice qb no xb) (.slice qc nc xc) (.slice qd ns xd) q)=>print_w q T E hTE (.slice qa nl xa) (.slice qb no xb) (.slice qc nc xc) (.slice qd ns xd) W (hE.keep hW) hv hqs)
 have HQL:=hid hql;have HE:=hid hE
 have HNL:=hid hnl;have HNO:=hid hno;have HNC:=hid hnc;have HNS:=hid hns
 have HAW:=hid (fun W (hW:Below w.heap.size w W)=>awake28_any W (HE.out.keep hW))
 have HPC:=hid (print_cases q)
 rw [hck,hTE] at HPC
 clear hp hs hE hq hqs hql hnl hno hnc hns hck hTE hx hl hszb hw0
 go_enter Tryd.func5,Tryd.ntmps5
 go_upto_region 1 with fail
 have hS:(fun W=>W.cell? ⟨w.heap.size,0,none⟩=some (.slice pa p.lv.length ca)∧W.cell? ⟨w.heap.size,1,none⟩=some (.slice pb p.od.length cb)∧W.cell? ⟨w.heap.size,2,none⟩=some (.slice pc p.ch.length cc)∧W.cell? ⟨w.heap.size,3,none⟩=some (.slice pd p.st.length cd)∧W.cell? ⟨w.heap.size,4,none⟩=some (.bool p.sens)∧W.cell? ⟨w.heap.size,5,none⟩=some (.int .i64 p.steps)∧W.cell? ⟨w.heap.size,6,none⟩=some (.int .i64 p.paths)∧W.cell? ⟨w.heap.size,7,none⟩=some (.int .i64 p.nodes)∧W.cell? ⟨w.heap.size,8,none⟩=some (.int .i64 p.conf)) (w.alloc (.cells #[.slice pa p.lv.length ca,.slice pb p.od.length cb,.slice pc p.ch.length cc,.slice pd p.st.length cd,.bool p.sens,.int .i64 p.steps,.int .i64 p.paths,.int .i64 p.nodes,.int .i64 p.conf] 26)).drew:=⟨HX0.out.at 0 rfl,HX0.out.at 1 rfl,HX0.out.at 2 rfl,HX0.out.at 3 rfl,HX0.out.at 4 rfl,HX0.out.at 5 rfl,HX0.out.at 6 rfl,HX0.out.at 7 rfl,HX0.out.at 8 rfl⟩
 have hFa:=fT
 refine rgN (fun W=>W.cell? ⟨w.heap.size,0,none⟩=some (.slice pa p.lv.length ca)∧W.cell? ⟨w.heap.size,1,none⟩=some (.slice pb p.od.length cb)∧W.cell? ⟨w.heap.size,2,none⟩=some (.slice pc p.ch.length cc)∧W.cell? ⟨w.heap.size,3,none⟩=some (.slice pd p.st.length cd)∧W.cell? ⟨w.heap.size,4,none⟩=some (.bool p.sens)∧W.cell? ⟨w.heap.size,5,none⟩=some (.int .i64 p.steps)∧W.cell? ⟨w.heap.size,6,none⟩=some (.int .i64 p.paths)∧W.cell? ⟨w.heap.size,7,none⟩=some (.int .i64 p.nodes)∧W.cell? ⟨w.heap.size,8,none⟩=some (.int .i64 p.conf)) 7 (by kernel_rfl) ?_
 simp only [List.size_toArray,List.length_cons,List.length_nil,Nat.reduceAdd]
 (refine wpHJ_nx (v:=?_) 9 rfl rfl (by kernel_rfl) nE hS ?_ ?_;rotate_left;(focus refine Or.inl ⟨by rfl,?_⟩;rintro w' ⟨s0,s1,s2,s3,s4,s5,s6,s7,s8⟩;(try go_simp);try rfl);simp only [Act.put,actP,actQ])
 iterate 5 (refine wpHJ_np (v:=?_) 10 rfl rfl (by kernel_rfl) nE (.inr hS) ?_ ?_;rotate_left;(focus refine Or.inl ⟨by rfl,?_⟩;rintro w' _;(try go_simp);try rfl);simp only [Act.put,actP,actQ])
 refine wpHJ_only 1 (by kernel_rfl) rfl (fun K hK=>?_)
 go_simp
 (refine (callsIn_wide.2 (HFW.out _ HB0.out)).mono ?_)
 rintro e w1 ⟨qa,xa,qb,xb,qc,xc,qd,xd,rfl,hg,hb⟩
 have HG1:=hid hg
 have HB1:=hid (HB0.out.trans (hb.mono HB0.out.size))
 have HX1:=hid (HX0.out.bel hb)
 clear hg hb
 have hS1:(fun W=>W.cell? ⟨w.heap.size,0,none⟩=some (.slice pa p.lv.length ca)∧W.cell? ⟨w.heap.size,1,none⟩=some (.slice pb p.od.length cb)∧W.cell? ⟨w.heap.size,2,none⟩=some (.slice pc p.ch.length cc)∧W.cell? ⟨w.heap.size,3,none⟩=some (.slice pd p.st.length cd)∧W.cell? ⟨w.heap.size,4,none⟩=some (.bool p.sens)∧W.cell? ⟨w.heap.size,5,none⟩=some (.int .i64 p.steps)∧W.cell? ⟨w.heap.size,6,none⟩=some (.int .i64 p.paths)∧W.cell? ⟨w.heap.size,7,none⟩=some (.int .i64 p.nodes)∧W.cell? ⟨w.heap.size,8,none⟩=some (.int .i64 p.conf)) w1:=⟨HX1.out.at 0 rfl,HX1.out.at 1 rfl,HX1.out.at 2 rfl,HX1.out.at 3 rfl,HX1.out.at 4 rfl,HX1.out.at 5 rfl,HX1.out.at 6 rfl,HX1.out.at 7 rfl,HX1.out.at 8 rfl⟩
 have n0:w1.cell? ⟨w.heap.size,0,none⟩=some (.slice pa p.lv.length ca):=HX1.out.at 0 rfl
 have n1:w1.cell? ⟨w.heap.size,1,none⟩=some (.slice pb p.od.length cb):=HX1.out.at 1 rfl
 have n2:w1.cell? ⟨w.heap.size,2,none⟩=some (.slice pc p.ch.length cc):=HX1.out.at 2 rfl
 have n3:w1.cell? ⟨w.heap.size,3,none⟩=some (.slice pd p.st.length cd):=HX1.out.at 3 rfl
 have n4:w1.cell? ⟨w.heap.size,4,none⟩=some (.bool p.sens):=HX1.out.at 4 rfl
 have n5:w1.cell? ⟨w.heap.size,5,none⟩=some (.int .i64 p.steps):=HX1.out.at 5 rfl
 have n6:w1.cell? ⟨w.heap.size,6,none⟩=some (.int .i64 p.paths):=HX1.out.at 6 rfl
 have n7:w1.cell? ⟨w.heap.size,7,none⟩=some (.int .i64 p.nodes):=HX1.out.at 7 rfl
 have n8:w1.cell? ⟨w.heap.size,8,none⟩=some (.int .i64 p.conf):=HX1.out.at 8 rfl
 have f0:w1.frozen? ⟨w.heap.size,0,none⟩=false:=HX1.out.fr 0
 have f1:w1.frozen? ⟨w.heap.size,1,none⟩=false:=HX1.out.fr 1
 have f2:w1.frozen? ⟨w.heap.size,2,none⟩=false:=HX1.out.fr 2
 have f3:w1.frozen? ⟨w.heap.size,3,none⟩=false:=HX1.out.fr 3
 have f4:w1.frozen? ⟨w.heap.size,4,none⟩=false:=HX1.out.fr 4
 have f5:w1.frozen? ⟨w.heap.size,5,none⟩=false:=HX1.out.fr 5
 have f6:w1.frozen? ⟨w.heap.size,6,none⟩=false:=HX1.out.fr 6
 have f7:w1.frozen? ⟨w.heap.size,7,none⟩=false:=HX1.out.fr 7
 have f8:w1.frozen? ⟨w.heap.size,8,none⟩=false:=HX1.out.fr 8
 refine hK _ _ (.inr (.inr hS1)) ?_
 clear hK K
 refine wpHJ_only 7 (by kernel_rfl) rfl (fun K hK=>?_)
 go_simp
 refine hK _ _ (.inl rfl) ?_
 clear hK K
 (refine wpHJ_np (v:=?_) 9 rfl rfl (by kernel_rfl) nE (.inl rfl) ?_ ?_;rotate_left;(focus refine Or.inl ⟨by rfl,?_⟩;rintro w' _;(try go_simp);try rfl);simp only [Act.put,actP,actQ])
 refine wpHJ_done (by kernel_rfl) ?_ _
 simp only [onlyN,Exit.then]
 clear hFa
 clear hS hS1 n0 f0 n1 f1 n2 f2 n3 f3 n4 f4 n5 f5 n6 f6 n7 f7 n8 f8
 rw [HSB.out]
 obtain ⟨w2,hw2⟩:∃ W,(((((((((w1).setCell ⟨w.heap.size,0,none⟩ (.slice qa nl xa)).setCell ⟨w.heap.size,1,none⟩ (.slice qb no xb)).setCell ⟨w.heap.size,2,none⟩ (.slice qc nc xc)).setCell ⟨w.heap.size,3,none⟩ (.slice qd ns xd)).setCell ⟨w.heap.size,4,none⟩ (.bool q.sens)).setCell ⟨w.heap.size,5,none⟩ (.int .i64 q.steps)).setCell ⟨w.heap.size,6,none⟩ (.int .i64 q.paths)).setCell ⟨w.heap.size,7,none⟩ (.int .i64 q.nodes)).setCell ⟨w.heap.size,8,none⟩ (.int .i64 q.conf)=W:=⟨_,rfl⟩
 have hx2:BxL 26 w.heap.size [.slice qa nl xa,.slice qb no xb,.slice qc nc xc,.slice qd ns xd,.bool q.sens,.int .i64 q.steps,.int .i64 q.paths,.int .i64 q.nodes,.int .i64 q.conf] w2:=by rw [← hw2];exact (((((((((HX1.out.set 0 (.slice qa nl xa)).set 1 (.slice qb no xb)).set 2 (.slice qc nc xc)).set 3 (.slice qd ns xd)).set 4 (.bool q.sens)).set 5 (.int .i64 q.steps)).set 6 (.int .i64 q.paths)).set 7 (.int .i64 q.nodes)).set 8 (.int .i64 q.conf))
 have hk2:∀ i,i ≠ w.heap.size→w2.heap[i]?=w1.heap[i]?:=fun i hi=>by rw [← hw2,heap_ot hi,heap_ot hi,heap_ot hi,heap_ot hi,heap_ot hi,heap_ot hi,heap_ot hi,heap_ot hi,heap_ot hi]
 have HB2:=hid (show Below w.heap.size w w2 from by rw [← hw2];exact (((((((((HB1.out.setCell (p:=⟨w.heap.size,0,none⟩) (Nat.le_refl _) _).setCell (p:=⟨w.heap.size,1,none⟩) (Nat.le_refl _) _).setCell (p:=⟨w.heap.size,2,none⟩) (Nat.le_refl _) _).setCell (p:=⟨w.heap.size,3,none⟩) (Nat.le_refl _) _).setCell (p:=⟨w.heap.size,4,none⟩) (Nat.le_refl _) _).setCell (p:=⟨w.heap.size,5,none⟩) (Nat.le_refl _) _).setCell (p:=⟨w.heap.size,6,none⟩) (Nat.le_refl _) _).setCell (p:=⟨w.heap.size,7,none⟩) (Nat.le_refl _) _).setCell (p:=⟨w.heap.size,8,none⟩) (Nat.le_refl _) _))
 have HV2:=hid (show PoV (·<w2.heap.size) w2 (.slice qa nl xa) (.slice qb no xb) (.slice qc nc xc) (.slice qd ns xd) q from by
  have hs0:(w.alloc (.cells #[.slice pa p.lv.length ca,.slice pb p.od.length cb,.slice pc p.ch.length cc,.slice pd p.st.length cd,.bool p.sens,.int .i64 p.steps,.int .i64 p.paths,.int .i64 p.nodes,.int .i64 p.conf] 26)).drew.heap.size=w.heap.size+1:=World.size_alloc _ _
  have h1:=HG1.out
  rw [hs0] at h1
  have h2:=h1.own (w':=w2) fun k hk _=>hk2 k (by omega)
  exact (h2.pov HQL.out).weaken fun k hk=>hk.2)
 rw [hw2]
 have HX2:=hid hx2
 have n0:w2.cell? ⟨w.heap.size,0,none⟩=some (.slice qa nl xa):=hx2.at 0 rfl
 have n1:w2.cell? ⟨w.heap.size,1,none⟩=some (.slice qb no xb):=hx2.at 1 rfl
 have n2:w2.cell? ⟨w.heap.size,2,none⟩=some (.slice qc nc xc):=hx2.at 2 rfl
 have n3:w2.cell? ⟨w.heap.size,3,none⟩=some (.slice qd ns xd):=hx2.at 3 rfl
 have n4:w2.cell? ⟨w.heap.size,4,none⟩=some (.bool q.sens):=hx2.at 4 rfl
 have n5:w2.cell? ⟨w.heap.size,5,none⟩=some (.int .i64 q.steps):=hx2.at 5 rfl
 have n6:w2.cell? ⟨w.heap.size,6,none⟩=some (.int .i64 q.paths):=hx2.at 6 rfl
 have n7:w2.cell? ⟨w.heap.size,7,none⟩=some (.int .i64 q.nodes):=hx2.at 7 rfl
 have n8:w2.cell? ⟨w.heap.size,8,none⟩=some (.int .i64 q.conf):=hx2.at 8 rfl
 clear hw2 hx2 hk2
 go_upto_region 3 with (go_at_call 12;(with_reducible refine (HPQ.out _ _ _ _ _ _ _ _ _ HB2.out HV2.out).mono ?_);rintro e w3 ⟨rfl,hb⟩;have HB3:=hid (HB2.out.trans (hb.mono HB2.out.size));have HX3:=hid (HX2.out.bel hb);have HV3:=hid (HV2.out.below hb);clear hb)
 clear n0 n1 n2 n3 n4 n5 n6 n7 n8
 have n0:w3.cell? ⟨w.heap.size,0,none⟩=some (.slice qa nl xa):=HX3.out.at 0 rfl
 have n1:w3.cell? ⟨w.heap.size,1,none⟩=some (.slice qb no xb):=HX3.out.at 1 rfl
 have n2:w3.cell? ⟨w.heap.size,2,none⟩=some (.slice qc nc xc):=HX3.out.at 2 rfl
 have n3:w3.cell? ⟨w.heap.size,3,none⟩=some (.slice qd ns xd):=HX3.out.at 3 rfl
 have n4:w3.cell? ⟨w.heap.size,4,none⟩=some (.bool q.sens):=HX3.out.at 4 rfl
 have n5:w3.cell? ⟨w.heap.size,5,none⟩=some (.int .i64 q.steps):=HX3.out.at 5 rfl
 have n6:w3.cell? ⟨w.heap.size,6,none⟩=some (.int .i64 q.paths):=HX3.out.at 6 rfl
 have n7:w3.cell? ⟨w.heap.size,7,none⟩=some (.int .i64 q.nodes):=HX3.out.at 7 rfl
 have n8:w3.cell? ⟨w.heap.size,8,none⟩=some (.int .i64 q.conf):=HX3.out.at 8 rfl
 have HPC:=HPC.out
 have CKA:=hid (fun W (hW:Below w.heap.size w W) (hv:PoV (·<W.heap.size) W (.slice qa nl xa) (.slice qb no xb) (.slice qc nc xc) (.slice qd ns xd) q)=>HCK.out qa qb qc qd xa xb xc xd W hW hv)
 rcases HPC with ⟨h0,hTE⟩ | ⟨h0,hTE⟩ | ⟨h0,hTE,hpt⟩
 ·injection hTE with h1 h2
  subst h1 h2
  have g1:(E != E)=false:=by simp
  have g2:(E == 0)=false:=beq_eq_false_iff_ne.2 h0
  clear h0
  go_upto_region 11 with (go_at_call 7;(with_reducible refine (CKA.out _ HB3.out HV3.out).mono ?_);rintro e w4 ⟨rfl,hb⟩;have HB4w:=hid (HB3.out.trans (hb.mono HB3.out.size));clear hb)
  clear n0 n1 n2 n3 n4 n5 n6 n7 n8 g1 g2
  rcases HTWO.out with ⟨x,y,fe,hpl,hfe,hin⟩ | ⟨p2,hpl,hc2,hl2⟩
  ·obtain ⟨j,c,hj,hpos,hcl⟩:=hin
   injection hpos with hL hC
   have HLx:=hid hL;have HCx:=hid hC
   obtain ⟨L,hLx⟩:∃ z,x=z:=⟨_,rfl⟩
   obtain ⟨C,hCx⟩:∃ z,y=z:=⟨_,rfl⟩
   subst hLx hCx
   obtain ⟨rj,hrj⟩:∃ r,(rowsNL l)[j]'hj=r:=⟨_,rfl⟩
   have HRJ:=hid (show ((rowsNL l).map fun r=>Value.string ⟨r.toArray⟩)[j]?=some (.string ⟨rj.toArray⟩) from by rw [List.getElem?_map,List.getElem?_eq_getElem hj,hrj];rfl)
   have g:(fe == 0)=false:=by rw [beq_eq_false_iff_ne];exact hfe
   have g2:(fe != 0)=true:=by rw [bne_iff_ne];exact hfe
   rw [hrj] at hcl
   have HRL:=hid (show rj.length≤2000 from by have h8:=rows_leP l.length l (Nat.le_refl _) rj (by rw [← hrj];exact List.getElem_mem _);have:=HLL.out;omega)
   obtain ⟨NR,hNR⟩:∃ n,(rowsNL l).length=n:=⟨_,rfl⟩
   have HNR:=hid hNR
   have hjn:j<NR:=by rw [← hNR];exact hj
   have HJN:=hid hjn;have HCL:=hid hcl
   have HNL:=hid (show NR≤70000 from by rw [← hNR,(rows_end l.length l (Nat.le_refl _)).1];have:=List.count_le_length (a:=(10:UInt8)) (l:=l);have:=HLL.out;omega)
   have HPA:=hid (fun W (hW:Below w.heap.size w W)=>show Calls Tryd.prog 17 #[.string ⟨l.toArray⟩] W (fun e w'=>∃ ja ka jb kb jc kc jd kd,e = .returned (.tuple #[.agg #[.slice ja 0 ka,.slice jb 0 kb,.slice jc 0 kc,.slice jd 0 kd,.bool false,.int .i64 0,.int .i64 0,.int .i64 0,.int .i64 0],.agg #[.int .i64 x,.int .i64 y],.int .i64 fe])∧PoV (·<w'.heap.size) w' (.slice ja 0 ka) (.slice jb 0 kb) (.slice jc 0 kc) (.slice jd 0 kd) po0∧Below W.heap.size W w') from parse_lit l po0 x y fe hpl W (HE.out.keep hW))
   have HSP:=hid (fun W (hW:Below w.heap.size w W)=>split_anyP l W (by have:=HLL.out;omega) (HE.out.keep hW))
   clear hpl hfe hL hC hj hrj hcl hNR hjn
   go_upto_region 12 with (go_at_call 17;(with_reducible refine (HPA.out _ HB4w.out).mono ?_);rintro e v1 ⟨ja,ka,jb,kb,jc,kc,jd,kd,rfl,hq,hb⟩;have HBv1:=hid (HB4w.out.trans (hb.mono HB4w.out.size));have HQv1:=hid hq;clear hb hq)
   obtain ⟨v2,hv2⟩:∃ W,(v1.alloc (.cells #[.slice ja 0 ka,.slice jb 0 kb,.slice jc 0 kc,.slice jd 0 kd,.bool false,.int .i64 0,.int .i64 0,.int .i64 0,.int .i64 0] 26)).alloc (.cells #[.int .i64 x,.int .i64 y] 42)=W:=⟨_,rfl⟩
   have hbx:Below v1.heap.size v1 v2:=by rw [← hv2];exact ((Below.refl _ _).alloc (Nat.le_refl _) _).alloc (by rw [World.size_alloc];omega) _
   have HXv2:=hid (show BxL 26 v1.heap.size [.slice ja 0 ka,.slice jb 0 kb,.slice jc 0 kc,.slice jd 0 kd,.bool false,.int .i64 0,.int .i64 0,.int .i64 0,.int .i64 0] v2 from by rw [← hv2];exact (BxL.new _ _ _).al _)
   have HYv2:=hid (show BxL 42 (v1.heap.size+1) [.int .i64 x,.int .i64 y] v2 from by rw [← hv2];have h9:=BxL.new 42 (v1.alloc (.cells #[.slice ja 0 ka,.slice jb 0 kb,.slice jc 0 kc,.slice jd 0 kd,.bool false,.int .i64 0,.int .i64 0,.int .i64 0,.int .i64 0] 26)) [.int .i64 x,.int .i64 y];rw [World.size_alloc] at h9;exact h9)
   rw [hv2]
   have HBv2:=hid (HBv1.out.trans (hbx.mono HBv1.out.size))
   have HQv2:=hid (HQv1.out.below hbx)
   clear hbx hv2
   have HSP:=hid (HSP.out v2 HBv2.out)
   rw [HNR.out] at HSP
   go_upto_region 14 with (go_at_call 18;(with_reducible refine HSP.out.mono ?_);rintro e v3 ⟨rfl,hz,hb⟩;have HBv3:=hid (HBv2.out.trans (hb.mono HBv2.out.size));have HXv3:=hid (HXv2.out.bel hb);have HYv3:=hid (HYv2.out.bel hb);have HZv3:=hid hz;have HQv3:=hid (HQv2.out.below hb);clear hb hz)
   have hrow:∀ {W:World},BxL 9 v2.heap.size ((rowsNL l).map fun r=>Value.string ⟨r.toArray⟩) W→W.cell? ⟨v2.heap.size,j,none⟩=some (.string ⟨rj.toArray⟩):=fun h=>h.at j HRJ.out
   have HEQ0:=hid (show Calls Tryd.prog 16 #[.agg #[.slice ja 0 ka,.slice jb 0 kb,.slice jc 0 kc,.slice jd 0 kd,.bool false,.int .i64 0,.int .i64 0,.int .i64 0,.int .i64 0],.agg #[.slice none 0 0,.slice none 0 0,.slice none 0 0,.slice none 0 0,.bool false,.int .i64 0,.int .i64 0,.int .i64 0,.int .i64 0]] v3.drew (fun e w'=>e = .returned (.bool true)∧Below v3.drew.heap.size v3.drew w') from by
    have h:=keqpo_any po0 po0 _ _ _ _ _ _ _ _ v3.drew (HQv3.out.below (Below.refl _ _).drew) ⟨SlG.nil,SlG.nil,SlG.nil,SlG.nil⟩
    rw [decide_eq_true rfl] at h
    exact h)
   have e1:decide (1≤x)=true:=decide_eq_true (by have:=HLx.out;omega)
   have e2:decide (x≤(NR:Int))=true:=decide_eq_true (by have:=HLx.out;have:=HJN.out;omega)
   have e3:decide (1≤y)=true:=decide_eq_true (by have:=HCx.out;omega)
   obtain ⟨RL,hRL⟩:∃ n,rj.length=n:=⟨_,rfl⟩
   rw [hRL] at HRL
   have e7:IntKind.i64.wrap ((RL:Int)+1)=(RL:Int)+1:=IntWalk.i64_in _ (by have:=HRL.out;omega)
   have e4:decide (y≤(RL:Int)+1)=true:=decide_eq_true (by have:=HCx.out;have:=HCL.out;omega)
   have e6:IntKind.i64.wrap (x - 1)=(j:Int):=by have:=HLx.out;rw [show x - 1=(j:Int) by omega];exact IntWalk.i64_in _ (by have:=HJN.out;have:=HNL.out;omega)
   have hjn:=HJN.out
   have hjz:(0:Int)≤(j:Int):=Int.natCast_nonneg j
   have e5:min x (NR:Int)=x:=by have:=HLx.out;have:=HJN.out;omega
   have hS:(fun W:World=>W.cell? ⟨v1.heap.size,0,none⟩=some (.slice ja 0 ka)∧W.cell? ⟨v1.heap.size,1,none⟩=some (.slice jb 0 kb)∧W.cell? ⟨v1.heap.size,2,none⟩=some (.slice jc 0 kc)∧W.cell? ⟨v1.heap.size,3,none⟩=some (.slice jd 0 kd)∧W.cell? ⟨v1.heap.size,4,none⟩=some (.bool false)∧W.cell? ⟨v1.heap.size,5,none⟩=some (.int .i64 0)∧W.cell? ⟨v1.heap.size,6,none⟩=some (.int .i64 0)∧W.cell? ⟨v1.heap.size,7,none⟩=some (.int .i64 0)∧W.cell? ⟨v1.heap.size,8,none⟩=some (.int .i64 0)∧W.cell? ⟨(v1.heap.size+1),0,none⟩=some (.int .i64 x)∧W.cell? ⟨(v1.heap.size+1),1,none⟩=some (.int .i64 y)∧W.cell? ⟨v2.heap.size,j,none⟩=some (.string ⟨rj.toArray⟩)) v3.drew:=⟨HXv3.out.drJ.at 0 rfl,HXv3.out.drJ.at 1 rfl,HXv3.out.drJ.at 2 rfl,HXv3.out.drJ.at 3 rfl,HXv3.out.drJ.at 4 rfl,HXv3.out.drJ.at 5 rfl,HXv3.out.drJ.at 6 rfl,HXv3.out.drJ.at 7 rfl,HXv3.out.drJ.at 8 rfl,HYv3.out.drJ.at 0 rfl,HYv3.out.drJ.at 1 rfl,hrow HZv3.out.drJ⟩
   have hFa:=fT
   refine rgN (fun W:World=>W.cell? ⟨v1.heap.size,0,none⟩=some (.slice ja 0 ka)∧W.cell? ⟨v1.heap.size,1,none⟩=some (.slice jb 0 kb)∧W.cell? ⟨v1.heap.size,2,none⟩=some (.slice jc 0 kc)∧W.cell? ⟨v1.heap.size,3,none⟩=some (.slice jd 0 kd)∧W.cell? ⟨v1.heap.size,4,none⟩=some (.bool false)∧W.cell? ⟨v1.heap.size,5,none⟩=some (.int .i64 0)∧W.cell? ⟨v1.heap.size,6,none⟩=some (.int .i64 0)∧W.cell? ⟨v1.heap.size,7,none⟩=some (.int .i64 0)∧W.cell? ⟨v1.heap.size,8,none⟩=some (.int .i64 0)∧W.cell? ⟨(v1.heap.size+1),0,none⟩=some (.int .i64 x)∧W.cell? ⟨(v1.heap.size+1),1,none⟩=some (.int .i64 y)∧W.cell? ⟨v2.heap.size,j,none⟩=some (.string ⟨rj.toArray⟩)) 40 (by kernel_rfl) ?_
   simp only [List.size_toArray,List.length_cons,List.length_nil,Nat.reduceAdd]
   iterate 2 (refine wpHJ_nx (v:=?_) 40 rfl rfl (by kernel_rfl) nE hS ?_ ?_;rotate_left;(focus refine Or.inl ⟨by rfl,?_⟩;rintro w' ⟨s0,s1,s2,s3,s4,s5,s6,s7,s8,s9,s10,s11⟩;(try go_simp);try rfl);simp only [Act.put,actP,actQ])
   refine wpHJ_only 2 (by kernel_rfl) rfl (fun K hK=>?_)
   go_simp
   (with_reducible refine (callsIn_wide.2 (HEQ0.out)).mono ?_)
   rintro e v4 ⟨rfl,hb⟩
   have HB4:=hid (HBv3.out.drew.trans (hb.mono HBv3.out.size))
   have HX4:=hid (HXv3.out.drJ.bel hb);have HY4:=hid (HYv3.out.drJ.bel hb);have HZ4:=hid (HZv3.out.drJ.bel hb)
   have hS4:(fun W:World=>W.cell? ⟨v1.heap.size,0,none⟩=some (.slice ja 0 ka)∧W.cell? ⟨v1.heap.size,1,none⟩=some (.slice jb 0 kb)∧W.cell? ⟨v1.heap.size,2,none⟩=some (.slice jc 0 kc)∧W.cell? ⟨v1.heap.size,3,none⟩=some (.slice jd 0 kd)∧W.cell? ⟨v1.heap.size,4,none⟩=some (.bool false)∧W.cell? ⟨v1.heap.size,5,none⟩=some (.int .i64 0)∧W.cell? ⟨v1.heap.size,6,none⟩=some (.int .i64 0)∧W.cell? ⟨v1.heap.size,7,none⟩=some (.int .i64 0)∧W.cell? ⟨v1.heap.size,8,none⟩=some (.int .i64 0)∧W.cell? ⟨(v1.heap.size+1),0,none⟩=some (.int .i64 x)∧W.cell? ⟨(v1.heap.size+1),1,none⟩=some (.int .i64 y)∧W.cell? ⟨v2.heap.size,j,none⟩=some (.string ⟨rj.toArray⟩)) v4:=⟨HX4.out.at 0 rfl,HX4.out.at 1 rfl,HX4.out.at 2 rfl,HX4.out.at 3 rfl,HX4.out.at 4 rfl,HX4.out.at 5 rfl,HX4.out.at 6 rfl,HX4.out.at 7 rfl,HX4.out.at 8 rfl,HY4.out.at 0 rfl,HY4.out.at 1 rfl,hrow HZ4.out⟩
   clear hb hS
   refine hK _ _ (.inr (.inr hS4)) ?_
   clear hK K
   iterate 34 (refine wpHJ_nx (v:=?_) 40 rfl rfl (by kernel_rfl) nE hS4 ?_ ?_;rotate_left;(focus refine Or.inl ⟨by simp [Region.wanted,yielded,undef],?_⟩;rintro w' ⟨s0,s1,s2,s3,s4,s5,s6,s7,s8,s9,s10,s11⟩;(try go_simp);try rfl);simp only [Act.put,actP,actQ])
   refine wpHJ_only 37 (by kernel_rfl) rfl (fun K hK=>?_)
   rw [if_pos (by simp [Region.wanted,yielded,undef])]
   go_simp
   (with_reducible refine (callsIn_wide.2 (HAW.out _ HB4.out)).mono ?_)
   rintro e v5 ⟨rfl,hb⟩
   have HB5:=hid (HB4.out.trans (hb.mono HB4.out.size))
   have hS5:(fun W:World=>W.cell? ⟨v1.heap.size,0,none⟩=some (.slice ja 0 ka)∧W.cell? ⟨v1.heap.size,1,none⟩=some (.slice jb 0 kb)∧W.cell? ⟨v1.heap.size,2,none⟩=some (.slice jc 0 kc)∧W.cell? ⟨v1.heap.size,3,none⟩=some (.slice jd 0 kd)∧W.cell? ⟨v1.heap.size,4,none⟩=some (.bool false)∧W.cell? ⟨v1.heap.size,5,none⟩=some (.int .i64 0)∧W.cell? ⟨v1.heap.size,6,none⟩=some (.int .i64 0)∧W.cell? ⟨v1.heap.size,7,none⟩=some (.int .i64 0)∧W.cell? ⟨v1.heap.size,8,none⟩=some (.int .i64 0)∧W.cell? ⟨(v1.heap.size+1),0,none⟩=some (.int .i64 x)∧W.cell? ⟨(v1.heap.size+1),1,none⟩=some (.int .i64 y)∧W.cell? ⟨v2.heap.size,j,none⟩=some (.string ⟨rj.toArray⟩)) v5:=⟨(HX4.out.bel hb).at 0 rfl,(HX4.out.bel hb).at 1 rfl,(HX4.out.bel hb).at 2 rfl,(HX4.out.bel hb).at 3 rfl,(HX4.out.bel hb).at 4 rfl,(HX4.out.bel hb).at 5 rfl,(HX4.out.bel hb).at 6 rfl,(HX4.out.bel hb).at 7 rfl,(HX4.out.bel hb).at 8 rfl,(HY4.out.bel hb).at 0 rfl,(HY4.out.bel hb).at 1 rfl,hrow (HZ4.out.bel hb)⟩
   clear hb
   refine hK _ _ (.inr (.inr hS5)) ?_
   clear hK K
   iterate 2 (refine wpHJ_nx (v:=?_) 40 rfl rfl (by kernel_rfl) nE hS5 ?_ ?_;rotate_left;(focus refine Or.inl ⟨by rfl,?_⟩;rintro w' ⟨s0,s1,s2,s3,s4,s5,s6,s7,s8,s9,s10,s11⟩;(try go_simp);try rfl);simp only [Act.put,actP,actQ])
   refine wpHJ_done (by kernel_rfl) ?_ _
   simp only [onlyN,Exit.then]
   clear hFa
   go_wp2_with fail
   go_ret
   exact ⟨rfl,HB5.out⟩
  ·have hs2:=pos_ok hc2
   have hpr2:printP p2=(textP p2,0):=by unfold printP;rw [if_neg (fun c=>c hc2),if_neg (by omega)]
   have hpa2:parseP (textP p2)=(p2,(0,0),0):=by unfold parseP;rw [parse_printP p2 hc2 (by omega)]
   obtain ⟨U,hU⟩:∃ U,textP p2=U:=⟨_,rfl⟩
   rw [hU] at hpr2 hpa2
   obtain ⟨ml,hml⟩:∃ n,p2.lv.length=n:=⟨_,rfl⟩
   obtain ⟨mo,hmo⟩:∃ n,p2.od.length=n:=⟨_,rfl⟩
   obtain ⟨mc,hmc⟩:∃ n,p2.ch.length=n:=⟨_,rfl⟩
   obtain ⟨ms,hms⟩:∃ n,p2.st.length=n:=⟨_,rfl⟩
   have HPA:=hid (fun W (hW:Below w.heap.size w W)=>parse_lit l p2 0 0 0 hpl W (HE.out.keep hW))
   have HPU:=hid (fun W (hW:Below w.heap.size w W)=>parse_lit U p2 0 0 0 hpa2 W (HE.out.keep hW))
   rw [hml,hmo,hmc,hms] at HPA HPU
   have HPR2:=hid (fun (ja jb jc jd:Option Addr) (ka kb kc kd:Nat) W (hW:Below w.heap.size w W) (hv:PoV (·<W.heap.size) W (.slice ja ml ka) (.slice jb mo kb) (.slice jc mc kc) (.slice jd ms kd) p2)=>print_w p2 U 0 hpr2 (.slice ja ml ka) (.slice jb mo kb) (.slice jc mc kc) (.slice jd ms kd) W (HE.out.keep hW) hv hs2)
   have HCK2:=hid (fun (ja jb jc jd:Option Addr) (ka kb kc kd:Nat) W (hW:Below w.heap.size w W) (hv:PoV (·<W.heap.size) W (.slice ja ml ka) (.slice jb mo kb) (.slice jc mc kc) (.slice jd ms kd) p2)=>check_w p2 0 hc2 (.slice ja ml ka) (.slice jb mo kb) (.slice jc mc kc) (.slice jd ms kd) W hv hs2 (HE.out.keep hW))
   have HEQ2:=hid (fun (ja jb jc jd ea eb ec ed:Option Addr) (ka kb kc kd ga gb gc gd:Nat) W (hv:PoV (·<W.heap.size) W (.slice ja ml ka) (.slice jb mo kb) (.slice jc mc kc) (.slice jd ms kd) p2) (hv':PoV (·<W.heap.size) W (.slice ea ml ga) (.slice eb mo gb) (.slice ec mc gc) (.slice ed ms gd) p2)=>show Calls Tryd.prog 15 #[.agg #[.slice ja ml ka,.slice jb mo kb,.slice jc mc kc,.slice jd ms kd,.bool p2.sens,.int .i64 p2.steps,.int .i64 p2.paths,.int .i64 p2.nodes,.int .i64 p2.conf],.agg #[.slice ea ml ga,.slice eb mo gb,.slice ec mc gc,.slice ed ms gd,.bool p2.sens,.int .i64 p2.steps,.int .i64 p2.paths,.int .i64 p2.nodes,.int .i64 p2.conf]] W (fun e w'=>e = .returned (.bool true)∧Below W.heap.size W w') from by
    have h:=eqpo_any p2 p2 _ _ _ _ _ _ _ _ W hv hv'
    rw [decide_eq_true rfl] at h
    exact h)
   have HSP:=hid (fun W (hW:Below w.heap.size w W)=>split_anyP l W (by have:=HLL.out;omega) (HE.out.keep hW))
   clear hpl hc2 hl2 hs2 hpr2 hpa2 hU hml hmo hmc hms
   go_upto_region 12 with (go_at_call 17;(with_reducible refine (HPA.out _ HB4w.out).mono ?_);rintro e v1 ⟨ja,ka,jb,kb,jc,kc,jd,kd,rfl,hq,hb⟩;have HBv1:=hid (HB4w.out.trans (hb.mono HB4w.out.size));have HQv1:=hid hq;clear hb hq)
   obtain ⟨v2,hv2⟩:∃ W,(v1.alloc (.cells #[.slice ja ml ka,.slice jb mo kb,.slice jc mc kc,.slice jd ms kd,.bool p2.sens,.int .i64 p2.steps,.int .i64 p2.paths,.int .i64 p2.nodes,.int .i64 p2.conf] 26)).alloc (.cells #[.int .i64 0,.int .i64 0] 42)=W:=⟨_,rfl⟩
   have hbx:Below v1.heap.size v1 v2:=by rw [← hv2];exact ((Below.refl _ _).alloc (Nat.le_refl _) _).alloc (by rw [World.size_alloc];omega) _
   have HXv2:=hid (show BxL 26 v1.heap.size [.slice ja ml ka,.slice jb mo kb,.slice jc mc kc,.slice jd ms kd,.bool p2.sens,.int .i64 p2.steps,.int .i64 p2.paths,.int .i64 p2.nodes,.int .i64 p2.conf] v2 from by rw [← hv2];exact (BxL.new _ _ _).al _)
   have HYv2:=hid (show BxL 42 (v1.heap.size+1) [.int .i64 0,.int .i64 0] v2 from by rw [← hv2];have h9:=BxL.new 42 (v1.alloc (.cells #[.slice ja ml ka,.slice jb mo kb,.slice jc mc kc,.slice jd ms kd,.bool p2.sens,.int .i64 p2.steps,.int .i64 p2.paths,.int .i64 p2.nodes,.int .i64 p2.conf] 26)) [.int .i64 0,.int .i64 0];rw [World.size_alloc] at h9;exact h9)
   rw [hv2]
   have HBv2:=hid (HBv1.out.trans (hbx.mono HBv1.out.size))
   have HQv2:=hid (HQv1.out.below hbx)
   clear hbx hv2
   have HSP:=hid (HSP.out v2 HBv2.out)
   obtain ⟨NR,hNR⟩:∃ n,(rowsNL l).length=n:=⟨_,rfl⟩
   rw [hNR] at HSP
   clear hNR
   go_upto_region 15 with (go_at_call 18;(with_reducible refine HSP.out.mono ?_);rintro e v3 ⟨rfl,hz,hb⟩;have HBv3:=hid (HBv2.out.trans (hb.mono HBv2.out.size));have HXv3:=hid (HXv2.out.bel hb);have HQv3:=hid (HQv2.out.below hb);clear hb hz)
   have n0:v3.cell? ⟨v1.heap.size,0,none⟩=some (.slice ja ml ka):=HXv3.out.at 0 rfl
   have n1:v3.cell? ⟨v1.heap.size,1,none⟩=some (.slice jb mo kb):=HXv3.out.at 1 rfl
   have n2:v3.cell? ⟨v1.heap.size,2,none⟩=some (.slice jc mc kc):=HXv3.out.at 2 rfl
   have n3:v3.cell? ⟨v1.heap.size,3,none⟩=some (.slice jd ms kd):=HXv3.out.at 3 rfl
   have n4:v3.cell? ⟨v1.heap.size,4,none⟩=some (.bool p2.sens):=HXv3.out.at 4 rfl
   have n5:v3.cell? ⟨v1.heap.size,5,none⟩=some (.int .i64 p2.steps):=HXv3.out.at 5 rfl
   have n6:v3.cell? ⟨v1.heap.size,6,none⟩=some (.int .i64 p2.paths):=HXv3.out.at 6 rfl
   have n7:v3.cell? ⟨v1.heap.size,7,none⟩=some (.int .i64 p2.nodes):=HXv3.out.at 7 rfl
   have n8:v3.cell? ⟨v1.heap.size,8,none⟩=some (.int .i64 p2.conf):=HXv3.out.at 8 rfl
   go_upto_region 17 with (first
    | (go_at_call 12;(with_reducible refine (HPR2.out _ _ _ _ _ _ _ _ _ HBv3.out HQv3.out).mono ?_);rintro e v4 ⟨rfl,hb⟩;have HBv4:=hid (HBv3.out.trans (hb.mono HBv3.out.size));have HXv4:=hid (HXv3.out.bel hb);have HQv4:=hid (HQv3.out.below hb);clear hb)
    | (go_at_call 17;(with_reducible refine (HPU.out _ HBv4.out).mono ?_);rintro e v5 ⟨ea,ga,eb,gb,ec,gc,ed,gd,rfl,hq,hb⟩;have HBv5:=hid (HBv4.out.trans (hb.mono HBv4.out.size));have HXv5:=hid (HXv4.out.bel hb);have HQv5:=hid (HQv4.out.below hb);have HRv5:=hid hq;clear hb hq))
   clear n0 n1 n2 n3 n4 n5 n6 n7 n8
   obtain ⟨v6,hv2⟩:∃ W,(v5.alloc (.cells #[.slice ea ml ga,.slice eb mo gb,.slice ec mc gc,.slice ed ms gd,.bool p2.sens,.int .i64 p2.steps,.int .i64 p2.paths,.int .i64 p2.nodes,.int .i64 p2.conf] 26)).alloc (.cells #[.int .i64 0,.int .i64 0] 42)=W:=⟨_,rfl⟩
   have hbx:Below v5.heap.size v5 v6:=by rw [← hv2];exact ((Below.refl _ _).alloc (Nat.le_refl _) _).alloc (by rw [World.size_alloc];omega) _
   have HXv6:=hid (show BxL 26 v5.heap.size [.slice ea ml ga,.slice eb mo gb,.slice ec mc gc,.slice ed ms gd,.bool p2.sens,.int .i64 p2.steps,.int .i64 p2.paths,.int .i64 p2.nodes,.int .i64 p2.conf] v6 from by rw [← hv2];exact (BxL.new _ _ _).al _)
   have HYv6:=hid (show BxL 42 (v5.heap.size+1) [.int .i64 0,.int .i64 0] v6 from by rw [← hv2];have h9:=BxL.new 42 (v5.alloc (.cells #[.slice ea ml ga,.slice eb mo gb,.slice ec mc gc,.slice ed ms gd,.bool p2.sens,.int .i64 p2.steps,.int .i64 p2.paths,.int .i64 p2.nodes,.int .i64 p2.conf] 26)) [.int .i64 0,.int .i64 0];rw [World.size_alloc] at h9;exact h9)
   rw [hv2]
   have HBv6:=hid (HBv5.out.trans (hbx.mono HBv5.out.size))
   have HQv6:=hid (HQv5.out.below hbx);have HRv6:=hid (HRv5.out.below hbx)
   have HXP6:=hid (HXv5.out.bel hbx)
   clear hbx hv2
   have n0:v6.cell? ⟨v1.heap.size,0,none⟩=some (.slice ja ml ka):=HXP6.out.at 0 rfl
   have n1:v6.cell? ⟨v1.heap.size,1,none⟩=some (.slice jb mo kb):=HXP6.out.at 1 rfl
   have n2:v6.cell? ⟨v1.heap.size,2,none⟩=some (.slice jc mc kc):=HXP6.out.at 2 rfl
   have n3:v6.cell? ⟨v1.heap.size,3,none⟩=some (.slice jd ms kd):=HXP6.out.at 3 rfl
   have n4:v6.cell? ⟨v1.heap.size,4,none⟩=some (.bool p2.sens):=HXP6.out.at 4 rfl
   have n5:v6.cell? ⟨v1.heap.size,5,none⟩=some (.int .i64 p2.steps):=HXP6.out.at 5 rfl
   have n6:v6.cell? ⟨v1.heap.size,6,none⟩=some (.int .i64 p2.paths):=HXP6.out.at 6 rfl
   have n7:v6.cell? ⟨v1.heap.size,7,none⟩=some (.int .i64 p2.nodes):=HXP6.out.at 7 rfl
   have n8:v6.cell? ⟨v1.heap.size,8,none⟩=some (.int .i64 p2.conf):=HXP6.out.at 8 rfl
   have HHOLD:=hid True.intro
   go_wp2_with (first
    | (go_at_call 7;(with_reducible refine (HCK2.out _ _ _ _ _ _ _ _ _ HBv6.out HQv6.out).mono ?_);rintro e v7 ⟨rfl,hb⟩;have HBv7:=hid (HBv6.out.trans (hb.mono HBv6.out.size));have HQv7:=hid (HQv6.out.below hb);have HRv7:=hid (HRv6.out.below hb);have HXP7:=hid (HXP6.out.bel hb);have HX7:=hid (HXv6.out.bel hb);clear hb;have m0:v7.cell? ⟨v1.heap.size,0,none⟩=some (.slice ja ml ka):=HXP7.out.at 0 rfl;have m1:v7.cell? ⟨v1.heap.size,1,none⟩=some (.slice jb mo kb):=HXP7.out.at 1 rfl;have m2:v7.cell? ⟨v1.heap.size,2,none⟩=some (.slice jc mc kc):=HXP7.out.at 2 rfl;have m3:v7.cell? ⟨v1.heap.size,3,none⟩=some (.slice jd ms kd):=HXP7.out.at 3 rfl;have m4:v7.cell? ⟨v1.heap.size,4,none⟩=some (.bool p2.sens):=HXP7.out.at 4 rfl;have m5:v7.cell? ⟨v1.heap.size,5,none⟩=some (.int .i64 p2.steps):=HXP7.out.at 5 rfl;have m6:v7.cell? ⟨v1.heap.size,6,none⟩=some (.int .i64 p2.paths):=HXP7.out.at 6 rfl;have m7:v7.cell? ⟨v1.heap.size,7,none⟩=some (.int .i64 p2.nodes):=HXP7.out.at 7 rfl;have m8:v7.cell? ⟨v1.heap.size,8,none⟩=some (.int .i64 p2.conf):=HXP7.out.at 8 rfl;have r0:v7.cell? ⟨v5.heap.size,0,none⟩=some (.slice ea ml ga):=HX7.out.at 0 rfl;have r1:v7.cell? ⟨v5.heap.size,1,none⟩=some (.slice eb mo gb):=HX7.out.at 1 rfl;have r2:v7.cell? ⟨v5.heap.size,2,none⟩=some (.slice ec mc gc):=HX7.out.at 2 rfl;have r3:v7.cell? ⟨v5.heap.size,3,none⟩=some (.slice ed ms gd):=HX7.out.at 3 rfl;have r4:v7.cell? ⟨v5.heap.size,4,none⟩=some (.bool p2.sens):=HX7.out.at 4 rfl;have r5:v7.cell? ⟨v5.heap.size,5,none⟩=some (.int .i64 p2.steps):=HX7.out.at 5 rfl;have r6:v7.cell? ⟨v5.heap.size,6,none⟩=some (.int .i64 p2.paths):=HX7.out.at 6 rfl;have r7:v7.cell? ⟨v5.heap.size,7,none⟩=some (.int .i64 p2.nodes):=HX7.out.at 7 rfl;have r8:v7.cell? ⟨v5.heap.size,8,none⟩=some (.int .i64 p2.conf):=HX7.out.at 8 rfl;skip)
    | (go_at_call 15;(with_reducible refine (HEQ2.out _ _ _ _ _ _ _ _ _ _ _ _ _ _ _ _ _ HQv7.out HRv7.out).mono ?_);rintro e v8 ⟨rfl,hb⟩;have HBv8:=hid (HBv7.out.trans (hb.mono HBv7.out.size));clear hb)
    | (go_at_call 10;(with_reducible refine (HAW.out _ HBv8.out).mono ?_);rintro e v9 ⟨rfl,hb⟩;have HBv9:=hid (HBv8.out.trans (hb.mono HBv8.out.size));clear hb))
   go_ret
   exact ⟨rfl,HBv9.out⟩
 ·injection hTE with h1 h2
  subst h0 h1 h2
  go_wp2_with (first
   | (go_at_call 7;(with_reducible refine (CKA.out _ HB3.out HV3.out).mono ?_);rintro e w4 ⟨rfl,hb⟩;have HB4w:=hid (HB3.out.trans (hb.mono HB3.out.size));clear hb)
   | (go_at_call 10;(with_reducible refine (HAW.out _ HB4w.out).mono ?_);rintro e w5 ⟨rfl,hb⟩;have HB5:=hid (HB4w.out.trans (hb.mono HB4w.out.size));clear hb))
  go_ret
  exact ⟨rfl,HB5.out⟩
 ·injection hTE with h1 h2
  subst h0 h2
  rw [← h1] at hpt
  have HPT:=hid (fun W (hW:Below w.heap.size w W)=>parse_lit T q 0 0 0 hpt W (HE.out.keep hW))
  rw [HNL.out,HNO.out,HNC.out,HNS.out] at HPT
  have HEQ1:=hid (fun (ea eb ec ed:Option Addr) (ga gb gc gd:Nat) W (hv:PoV (·<W.heap.size) W (.slice qa nl xa) (.slice qb no xb) (.slice qc nc xc) (.slice qd ns xd) q) (hv':PoV (·<W.heap.size) W (.slice ea nl ga) (.slice eb no gb) (.slice ec nc gc) (.slice ed ns gd) q)=>show Calls Tryd.prog 15 #[.agg #[.slice qa nl xa,.slice qb no xb,.slice qc nc xc,.slice qd ns xd,.bool q.sens,.int .i64 q.steps,.int .i64 q.paths,.int .i64 q.nodes,.int .i64 q.conf],.agg #[.slice ea nl ga,.slice eb no gb,.slice ec nc gc,.slice ed ns gd,.bool q.sens,.int .i64 q.steps,.int .i64 q.paths,.int .i64 q.nodes,.int .i64 q.conf]] W (fun e w'=>e = .returned (.bool true)∧Below W.heap.size W w') from by
   have h:=eqpo_any q q _ _ _ _ _ _ _ _ W hv hv'
   rw [decide_eq_true rfl] at h
   exact h)
  clear h1 hpt
  go_upto_region 7 with (first
   | (go_at_call 7;(with_reducible refine (CKA.out _ HB3.out HV3.out).mono ?_);rintro e w4 ⟨rfl,hb⟩;have HB4w:=hid (HB3.out.trans (hb.mono HB3.out.size));have HX4w:=hid (HX3.out.bel hb);have HV4w:=hid (HV3.out.below hb);clear hb)
   | (go_at_call 17;(with_reducible refine (HPT.out _ HB4w.out).mono ?_);rintro e w5 ⟨ea,ga,eb,gb,ec,gc,ed,gd,rfl,hq,hb⟩;have HBw5:=hid (HB4w.out.trans (hb.mono HB4w.out.size));have HX5w:=hid (HX4w.out.bel hb);have HV5w:=hid (HV4w.out.below hb);have HR5w:=hid hq;clear hb hq))
  clear n0 n1 n2 n3 n4 n5 n6 n7 n8
  obtain ⟨w6,hv2⟩:∃ W,(w5.alloc (.cells #[.slice ea nl ga,.slice eb no gb,.slice ec nc gc,.slice ed ns gd,.bool q.sens,.int .i64 q.steps,.int .i64 q.paths,.int .i64 q.nodes,.int .i64 q.conf] 26)).alloc (.cells #[.int .i64 0,.int .i64 0] 42)=W:=⟨_,rfl⟩
  have hbx:Below w5.heap.size w5 w6:=by rw [← hv2];exact ((Below.refl _ _).alloc (Nat.le_refl _) _).alloc (by rw [World.size_alloc];omega) _
  have HXw6:=hid (show BxL 26 w5.heap.size [.slice ea nl ga,.slice eb no gb,.slice ec nc gc,.slice ed ns gd,.bool q.sens,.int .i64 q.steps,.int .i64 q.paths,.int .i64 q.nodes,.int .i64 q.conf] w6 from by rw [← hv2];exact (BxL.new _ _ _).al _)
  have HYw6:=hid (show BxL 42 (w5.heap.size+1) [.int .i64 0,.int .i64 0] w6 from by rw [← hv2];have h9:=BxL.new 42 (w5.alloc (.cells #[.slice ea nl ga,.slice eb no gb,.slice ec nc gc,.slice ed ns gd,.bool q.sens,.int .i64 q.steps,.int .i64 q.paths,.int .i64 q.nodes,.int .i64 q.conf] 26)) [.int .i64 0,.int .i64 0];rw [World.size_alloc] at h9;exact h9)
  rw [hv2]
  have HBw6:=hid (HBw5.out.trans (hbx.mono HBw5.out.size))
  have HVw6:=hid (HV5w.out.below hbx);have HRw6:=hid (HR5w.out.below hbx)
  have HPw6:=hid (HX5w.out.bel hbx)
  clear hbx hv2
  have n0:w6.cell? ⟨w.heap.size,0,none⟩=some (.slice qa nl xa):=HPw6.out.at 0 rfl
  have n1:w6.cell? ⟨w.heap.size,1,none⟩=some (.slice qb no xb):=HPw6.out.at 1 rfl
  have n2:w6.cell? ⟨w.heap.size,2,none⟩=some (.slice qc nc xc):=HPw6.out.at 2 rfl
  have n3:w6.cell? ⟨w.heap.size,3,none⟩=some (.slice qd ns xd):=HPw6.out.at 3 rfl
  have n4:w6.cell? ⟨w.heap.size,4,none⟩=some (.bool q.sens):=HPw6.out.at 4 rfl
  have n5:w6.cell? ⟨w.heap.size,5,none⟩=some (.int .i64 q.steps):=HPw6.out.at 5 rfl
  have n6:w6.cell? ⟨w.heap.size,6,none⟩=some (.int .i64 q.paths):=HPw6.out.at 6 rfl
  have n7:w6.cell? ⟨w.heap.size,7,none⟩=some (.int .i64 q.nodes):=HPw6.out.at 7 rfl
  have n8:w6.cell? ⟨w.heap.size,8,none⟩=some (.int .i64 q.conf):=HPw6.out.at 8 rfl
  have m0:w6.cell? ⟨w5.heap.size,0,none⟩=some (.slice ea nl ga):=HXw6.out.at 0 rfl
  have m1:w6.cell? ⟨w5.heap.size,1,none⟩=some (.slice eb no gb):=HXw6.out.at 1 rfl
  have m2:w6.cell? ⟨w5.heap.size,2,none⟩=some (.slice ec nc gc):=HXw6.out.at 2 rfl
  have m3:w6.cell? ⟨w5.heap.size,3,none⟩=some (.slice ed ns gd):=HXw6.out.at 3 rfl
  have m4:w6.cell? ⟨w5.heap.size,4,none⟩=some (.bool q.sens):=HXw6.out.at 4 rfl
  have m5:w6.cell? ⟨w5.heap.size,5,none⟩=some (.int .i64 q.steps):=HXw6.out.at 5 rfl
  have m6:w6.cell? ⟨w5.heap.size,6,none⟩=some (.int .i64 q.paths):=HXw6.out.at 6 rfl
  have m7:w6.cell? ⟨w5.heap.size,7,none⟩=some (.int .i64 q.nodes):=HXw6.out.at 7 rfl
  have m8:w6.cell? ⟨w5.heap.size,8,none⟩=some (.int .i64 q.conf):=HXw6.out.at 8 rfl
  go_upto_region 11 with (go_at_call 15;(with_reducible refine (HEQ1.out _ _ _ _ _ _ _ _ _ HVw6.out HRw6.out).mono ?_);rintro e w7 ⟨rfl,hb⟩;have HB7w:=hid (HBw6.out.trans (hb.mono HBw6.out.size));have HYw7:=hid (HYw6.out.bel hb);clear hb;have y0:=HYw7.out.at 0 rfl;have y1:=HYw7.out.at 1 rfl)
  clear n0 m0 n1 m1 n2 m2 n3 m3 n4 m4 n5 m5 n6 m6 n7 m7 n8 m8
  rcases HTWO.out with ⟨x,y,fe,hpl,hfe,hin⟩ | ⟨p2,hpl,hc2,hl2⟩
  ·obtain ⟨j,c,hj,hpos,hcl⟩:=hin
   injection hpos with hL hC
   have HLx:=hid hL;have HCx:=hid hC
   obtain ⟨L,hLx⟩:∃ z,x=z:=⟨_,rfl⟩
   obtain ⟨C,hCx⟩:∃ z,y=z:=⟨_,rfl⟩
   subst hLx hCx
   obtain ⟨rj,hrj⟩:∃ r,(rowsNL l)[j]'hj=r:=⟨_,rfl⟩
   have HRJ:=hid (show ((rowsNL l).map fun r=>Value.string ⟨r.toArray⟩)[j]?=some (.string ⟨rj.toArray⟩) from by rw [List.getElem?_map,List.getElem?_eq_getElem hj,hrj];rfl)
   have g:(fe == 0)=false:=by rw [beq_eq_false_iff_ne];exact hfe
   have g2:(fe != 0)=true:=by rw [bne_iff_ne];exact hfe
   rw [hrj] at hcl
   have HRL:=hid (show rj.length≤2000 from by have h8:=rows_leP l.length l (Nat.le_refl _) rj (by rw [← hrj];exact List.getElem_mem _);have:=HLL.out;omega)
   obtain ⟨NR,hNR⟩:∃ n,(rowsNL l).length=n:=⟨_,rfl⟩
   have HNR:=hid hNR
   have hjn:j<NR:=by rw [← hNR];exact hj
   have HJN:=hid hjn;have HCL:=hid hcl
   have HNL:=hid (show NR≤70000 from by rw [← hNR,(rows_end l.length l (Nat.le_refl _)).1];have:=List.count_le_length (a:=(10:UInt8)) (l:=l);have:=HLL.out;omega)
   have HPA:=hid (fun W (hW:Below w.heap.size w W)=>show Calls Tryd.prog 17 #[.string ⟨l.toArray⟩] W (fun e w'=>∃ ja ka jb kb jc kc jd kd,e = .returned (.tuple #[.agg #[.slice ja 0 ka,.slice jb 0 kb,.slice jc 0 kc,.slice jd 0 kd,.bool false,.int .i64 0,.int .i64 0,.int .i64 0,.int .i64 0],.agg #[.int .i64 x,.int .i64 y],.int .i64 fe])∧PoV (·<w'.heap.size) w' (.slice ja 0 ka) (.slice jb 0 kb) (.slice jc 0 kc) (.slice jd 0 kd) po0∧Below W.heap.size W w') from parse_lit l po0 x y fe hpl W (HE.out.keep hW))
   have HSP:=hid (fun W (hW:Below w.heap.size w W)=>split_anyP l W (by have:=HLL.out;omega) (HE.out.keep hW))
   clear hpl hfe hL hC hj hrj hcl hNR hjn
   go_upto_region 12 with (go_at_call 17;(with_reducible refine (HPA.out _ HB7w.out).mono ?_);rintro e v1 ⟨ja,ka,jb,kb,jc,kc,jd,kd,rfl,hq,hb⟩;have HBv1:=hid (HB7w.out.trans (hb.mono HB7w.out.size));have HQv1:=hid hq;clear hb hq)
   obtain ⟨v2,hv2⟩:∃ W,(v1.alloc (.cells #[.slice ja 0 ka,.slice jb 0 kb,.slice jc 0 kc,.slice jd 0 kd,.bool false,.int .i64 0,.int .i64 0,.int .i64 0,.int .i64 0] 26)).alloc (.cells #[.int .i64 x,.int .i64 y] 42)=W:=⟨_,rfl⟩
   have hbx:Below v1.heap.size v1 v2:=by rw [← hv2];exact ((Below.refl _ _).alloc (Nat.le_refl _) _).alloc (by rw [World.size_alloc];omega) _
   have HXv2:=hid (show BxL 26 v1.heap.size [.slice ja 0 ka,.slice jb 0 kb,.slice jc 0 kc,.slice jd 0 kd,.bool false,.int .i64 0,.int .i64 0,.int .i64 0,.int .i64 0] v2 from by rw [← hv2];exact (BxL.new _ _ _).al _)
   have HYv2:=hid (show BxL 42 (v1.heap.size+1) [.int .i64 x,.int .i64 y] v2 from by rw [← hv2];have h9:=BxL.new 42 (v1.alloc (.cells #[.slice ja 0 ka,.slice jb 0 kb,.slice jc 0 kc,.slice jd 0 kd,.bool false,.int .i64 0,.int .i64 0,.int .i64 0,.int .i64 0] 26)) [.int .i64 x,.int .i64 y];rw [World.size_alloc] at h9;exact h9)
   rw [hv2]
   have HBv2:=hid (HBv1.out.trans (hbx.mono HBv1.out.size))
   have HQv2:=hid (HQv1.out.below hbx)
   clear hbx hv2
   have HSP:=hid (HSP.out v2 HBv2.out)
   rw [HNR.out] at HSP
   go_upto_region 14 with (go_at_call 18;(with_reducible refine HSP.out.mono ?_);rintro e v3 ⟨rfl,hz,hb⟩;have HBv3:=hid (HBv2.out.trans (hb.mono HBv2.out.size));have HXv3:=hid (HXv2.out.bel hb);have HYv3:=hid (HYv2.out.bel hb);have HZv3:=hid hz;have HQv3:=hid (HQv2.out.below hb);clear hb hz)
   have hrow:∀ {W:World},BxL 9 v2.heap.size ((rowsNL l).map fun r=>Value.string ⟨r.toArray⟩) W→W.cell? ⟨v2.heap.size,j,none⟩=some (.string ⟨rj.toArray⟩):=fun h=>h.at j HRJ.out
   have HEQ0:=hid (show Calls Tryd.prog 16 #[.agg #[.slice ja 0 ka,.slice jb 0 kb,.slice jc 0 kc,.slice jd 0 kd,.bool false,.int .i64 0,.int .i64 0,.int .i64 0,.int .i64 0],.agg #[.slice none 0 0,.slice none 0 0,.slice none 0 0,.slice none 0 0,.bool false,.int .i64 0,.int .i64 0,.int .i64 0,.int .i64 0]] v3.drew (fun e w'=>e = .returned (.bool true)∧Below v3.drew.heap.size v3.drew w') from by
    have h:=keqpo_any po0 po0 _ _ _ _ _ _ _ _ v3.drew (HQv3.out.below (Below.refl _ _).drew) ⟨SlG.nil,SlG.nil,SlG.nil,SlG.nil⟩
    rw [decide_eq_true rfl] at h
    exact h)
   have e1:decide (1≤x)=true:=decide_eq_true (by have:=HLx.out;omega)
   have e2:decide (x≤(NR:Int))=true:=decide_eq_true (by have:=HLx.out;have:=HJN.out;omega)
   have e3:decide (1≤y)=true:=decide_eq_true (by have:=HCx.out;omega)
   obtain ⟨RL,hRL⟩:∃ n,rj.length=n:=⟨_,rfl⟩
   rw [hRL] at HRL
   have e7:IntKind.i64.wrap ((RL:Int)+1)=(RL:Int)+1:=IntWalk.i64_in _ (by have:=HRL.out;omega)
   have e4:decide (y≤(RL:Int)+1)=true:=decide_eq_true (by have:=HCx.out;have:=HCL.out;omega)
   have e6:IntKind.i64.wrap (x - 1)=(j:Int):=by have:=HLx.out;rw [show x - 1=(j:Int) by omega];exact IntWalk.i64_in _ (by have:=HJN.out;have:=HNL.out;omega)
   have hjn:=HJN.out
   have hjz:(0:Int)≤(j:Int):=Int.natCast_nonneg j
   have e5:min x (NR:Int)=x:=by have:=HLx.out;have:=HJN.out;omega
   have hS:(fun W:World=>W.cell? ⟨v1.heap.size,0,none⟩=some (.slice ja 0 ka)∧W.cell? ⟨v1.heap.size,1,none⟩=some (.slice jb 0 kb)∧W.cell? ⟨v1.heap.size,2,none⟩=some (.slice jc 0 kc)∧W.cell? ⟨v1.heap.size,3,none⟩=some (.slice jd 0 kd)∧W.cell? ⟨v1.heap.size,4,none⟩=some (.bool false)∧W.cell? ⟨v1.heap.size,5,none⟩=some (.int .i64 0)∧W.cell? ⟨v1.heap.size,6,none⟩=some (.int .i64 0)∧W.cell? ⟨v1.heap.size,7,none⟩=some (.int .i64 0)∧W.cell? ⟨v1.heap.size,8,none⟩=some (.int .i64 0)∧W.cell? ⟨(v1.heap.size+1),0,none⟩=some (.int .i64 x)∧W.cell? ⟨(v1.heap.size+1),1,none⟩=some (.int .i64 y)∧W.cell? ⟨v2.heap.size,j,none⟩=some (.string ⟨rj.toArray⟩)) v3.drew:=⟨HXv3.out.drJ.at 0 rfl,HXv3.out.drJ.at 1 rfl,HXv3.out.drJ.at 2 rfl,HXv3.out.drJ.at 3 rfl,HXv3.out.drJ.at 4 rfl,HXv3.out.drJ.at 5 rfl,HXv3.out.drJ.at 6 rfl,HXv3.out.drJ.at 7 rfl,HXv3.out.drJ.at 8 rfl,HYv3.out.drJ.at 0 rfl,HYv3.out.drJ.at 1 rfl,hrow HZv3.out.drJ⟩
   have hFa:=fT
   refine rgN (fun W:World=>W.cell? ⟨v1.heap.size,0,none⟩=some (.slice ja 0 ka)∧W.cell? ⟨v1.heap.size,1,none⟩=some (.slice jb 0 kb)∧W.cell? ⟨v1.heap.size,2,none⟩=some (.slice jc 0 kc)∧W.cell? ⟨v1.heap.size,3,none⟩=some (.slice jd 0 kd)∧W.cell? ⟨v1.heap.size,4,none⟩=some (.bool false)∧W.cell? ⟨v1.heap.size,5,none⟩=some (.int .i64 0)∧W.cell? ⟨v1.heap.size,6,none⟩=some (.int .i64 0)∧W.cell? ⟨v1.heap.size,7,none⟩=some (.int .i64 0)∧W.cell? ⟨v1.heap.size,8,none⟩=some (.int .i64 0)∧W.cell? ⟨(v1.heap.size+1),0,none⟩=some (.int .i64 x)∧W.cell? ⟨(v1.heap.size+1),1,none⟩=some (.int .i64 y)∧W.cell? ⟨v2.heap.size,j,none⟩=some (.string ⟨rj.toArray⟩)) 40 (by kernel_rfl) ?_
   simp only [List.size_toArray,List.length_cons,List.length_nil,Nat.reduceAdd]
   iterate 2 (refine wpHJ_nx (v:=?_) 40 rfl rfl (by kernel_rfl) nE hS ?_ ?_;rotate_left;(focus refine Or.inl ⟨by rfl,?_⟩;rintro w' ⟨s0,s1,s2,s3,s4,s5,s6,s7,s8,s9,s10,s11⟩;(try go_simp);try rfl);simp only [Act.put,actP,actQ])
   refine wpHJ_only 2 (by kernel_rfl) rfl (fun K hK=>?_)
   go_simp
   (with_reducible refine (callsIn_wide.2 (HEQ0.out)).mono ?_)
   rintro e v4 ⟨rfl,hb⟩
   have HB4:=hid (HBv3.out.drew.trans (hb.mono HBv3.out.size))
   have HX4:=hid (HXv3.out.drJ.bel hb);have HY4:=hid (HYv3.out.drJ.bel hb);have HZ4:=hid (HZv3.out.drJ.bel hb)
   have hS4:(fun W:World=>W.cell? ⟨v1.heap.size,0,none⟩=some (.slice ja 0 ka)∧W.cell? ⟨v1.heap.size,1,none⟩=some (.slice jb 0 kb)∧W.cell? ⟨v1.heap.size,2,none⟩=some (.slice jc 0 kc)∧W.cell? ⟨v1.heap.size,3,none⟩=some (.slice jd 0 kd)∧W.cell? ⟨v1.heap.size,4,none⟩=some (.bool false)∧W.cell? ⟨v1.heap.size,5,none⟩=some (.int .i64 0)∧W.cell? ⟨v1.heap.size,6,none⟩=some (.int .i64 0)∧W.cell? ⟨v1.heap.size,7,none⟩=some (.int .i64 0)∧W.cell? ⟨v1.heap.size,8,none⟩=some (.int .i64 0)∧W.cell? ⟨(v1.heap.size+1),0,none⟩=some (.int .i64 x)∧W.cell? ⟨(v1.heap.size+1),1,none⟩=some (.int .i64 y)∧W.cell? ⟨v2.heap.size,j,none⟩=some (.string ⟨rj.toArray⟩)) v4:=⟨HX4.out.at 0 rfl,HX4.out.at 1 rfl,HX4.out.at 2 rfl,HX4.out.at 3 rfl,HX4.out.at 4 rfl,HX4.out.at 5 rfl,HX4.out.at 6 rfl,HX4.out.at 7 rfl,HX4.out.at 8 rfl,HY4.out.at 0 rfl,HY4.out.at 1 rfl,hrow HZ4.out⟩
   clear hb hS
   refine hK _ _ (.inr (.inr hS4)) ?_
   clear hK K
   iterate 34 (refine wpHJ_nx (v:=?_) 40 rfl rfl (by kernel_rfl) nE hS4 ?_ ?_;rotate_left;(focus refine Or.inl ⟨by simp [Region.wanted,yielded,undef],?_⟩;rintro w' ⟨s0,s1,s2,s3,s4,s5,s6,s7,s8,s9,s10,s11⟩;(try go_simp);try rfl);simp only [Act.put,actP,actQ])
   refine wpHJ_only 37 (by kernel_rfl) rfl (fun K hK=>?_)
   rw [if_pos (by simp [Region.wanted,yielded,undef])]
   go_simp
   (with_reducible refine (callsIn_wide.2 (HAW.out _ HB4.out)).mono ?_)
   rintro e v5 ⟨rfl,hb⟩
   have HB5:=hid (HB4.out.trans (hb.mono HB4.out.size))
   have hS5:(fun W:World=>W.cell? ⟨v1.heap.size,0,none⟩=some (.slice ja 0 ka)∧W.cell? ⟨v1.heap.size,1,none⟩=some (.slice jb 0 kb)∧W.cell? ⟨v1.heap.size,2,none⟩=some (.slice jc 0 kc)∧W.cell? ⟨v1.heap.size,3,none⟩=some (.slice jd 0 kd)∧W.cell? ⟨v1.heap.size,4,none⟩=some (.bool false)∧W.cell? ⟨v1.heap.size,5,none⟩=some (.int .i64 0)∧W.cell? ⟨v1.heap.size,6,none⟩=some (.int .i64 0)∧W.cell? ⟨v1.heap.size,7,none⟩=some (.int .i64 0)∧W.cell? ⟨v1.heap.size,8,none⟩=some (.int .i64 0)∧W.cell? ⟨(v1.heap.size+1),0,none⟩=some (.int .i64 x)∧W.cell? ⟨(v1.heap.size+1),1,none⟩=some (.int .i64 y)∧W.cell? ⟨v2.heap.size,j,none⟩=some (.string ⟨rj.toArray⟩)) v5:=⟨(HX4.out.bel hb).at 0 rfl,(HX4.out.bel hb).at 1 rfl,(HX4.out.bel hb).at 2 rfl,(HX4.out.bel hb).at 3 rfl,(HX4.out.bel hb).at 4 rfl,(HX4.out.bel hb).at 5 rfl,(HX4.out.bel hb).at 6 rfl,(HX4.out.bel hb).at 7 rfl,(HX4.out.bel hb).at 8 rfl,(HY4.out.bel hb).at 0 rfl,(HY4.out.bel hb).at 1 rfl,hrow (HZ4.out.bel hb)⟩
   clear hb
   refine hK _ _ (.inr (.inr hS5)) ?_
   clear hK K
   iterate 2 (refine wpHJ_nx (v:=?_) 40 rfl rfl (by kernel_rfl) nE hS5 ?_ ?_;rotate_left;(focus refine Or.inl ⟨by rfl,?_⟩;rintro w' ⟨s0,s1,s2,s3,s4,s5,s6,s7,s8,s9,s10,s11⟩;(try go_simp);try rfl);simp only [Act.put,actP,actQ])
   refine wpHJ_done (by kernel_rfl) ?_ _
   simp only [onlyN,Exit.then]
   clear hFa
   go_wp2_with fail
   go_ret
   exact ⟨rfl,HB5.out⟩
  ·have hs2:=pos_ok hc2
   have hpr2:printP p2=(textP p2,0):=by unfold printP;rw [if_neg (fun c=>c hc2),if_neg (by omega)]
   have hpa2:parseP (textP p2)=(p2,(0,0),0):=by unfold parseP;rw [parse_printP p2 hc2 (by omega)]
   obtain ⟨U,hU⟩:∃ U,textP p2=U:=⟨_,rfl⟩
   rw [hU] at hpr2 hpa2
   obtain ⟨ml,hml⟩:∃ n,p2.lv.length=n:=⟨_,rfl⟩
   obtain ⟨mo,hmo⟩:∃ n,p2.od.length=n:=⟨_,rfl⟩
   obtain ⟨mc,hmc⟩:∃ n,p2.ch.length=n:=⟨_,rfl⟩
   obtain ⟨ms,hms⟩:∃ n,p2.st.length=n:=⟨_,rfl⟩
   have HPA:=hid (fun W (hW:Below w.heap.size w W)=>parse_lit l p2 0 0 0 hpl W (HE.out.keep hW))
   have HPU:=hid (fun W (hW:Below w.heap.size w W)=>parse_lit U p2 0 0 0 hpa2 W (HE.out.keep hW))
   rw [hml,hmo,hmc,hms] at HPA HPU
   have HPR2:=hid (fun (ja jb jc jd:Option Addr) (ka kb kc kd:Nat) W (hW:Below w.heap.size w W) (hv:PoV (·<W.heap.size) W (.slice ja ml ka) (.slice jb mo kb) (.slice jc mc kc) (.slice jd ms kd) p2)=>print_w p2 U 0 hpr2 (.slice ja ml ka) (.slice jb mo kb) (.slice jc mc kc) (.slice jd ms kd) W (HE.out.keep hW) hv hs2)
   have HCK2:=hid (fun (ja jb jc jd:Option Addr) (ka kb kc kd:Nat) W (hW:Below w.heap.size w W) (hv:PoV (·<W.heap.size) W (.slice ja ml ka) (.slice jb mo kb) (.slice jc mc kc) (.slice jd ms kd) p2)=>check_w p2 0 hc2 (.slice ja ml ka) (.slice jb mo kb) (.slice jc mc kc) (.slice jd ms kd) W hv hs2 (HE.out.keep hW))
   have HEQ2:=hid (fun (ja jb jc jd ea eb ec ed:Option Addr) (ka kb kc kd ga gb gc gd:Nat) W (hv:PoV (·<W.heap.size) W (.slice ja ml ka) (.slice jb mo kb) (.slice jc mc kc) (.slice jd ms kd) p2) (hv':PoV (·<W.heap.size) W (.slice ea ml ga) (.slice eb mo gb) (.slice ec mc gc) (.slice ed ms gd) p2)=>show Calls Tryd.prog 15 #[.agg #[.slice ja ml ka,.slice jb mo kb,.slice jc mc kc,.slice jd ms kd,.bool p2.sens,.int .i64 p2.steps,.int .i64 p2.paths,.int .i64 p2.nodes,.int .i64 p2.conf],.agg #[.slice ea ml ga,.slice eb mo gb,.slice ec mc gc,.slice ed ms gd,.bool p2.sens,.int .i64 p2.steps,.int .i64 p2.paths,.int .i64 p2.nodes,.int .i64 p2.conf]] W (fun e w'=>e = .returned (.bool true)∧Below W.heap.size W w') from by
    have h:=eqpo_any p2 p2 _ _ _ _ _ _ _ _ W hv hv'
    rw [decide_eq_true rfl] at h
    exact h)
   have HSP:=hid (fun W (hW:Below w.heap.size w W)=>split_anyP l W (by have:=HLL.out;omega) (HE.out.keep hW))
   clear hpl hc2 hl2 hs2 hpr2 hpa2 hU hml hmo hmc hms
   go_upto_region 12 with (go_at_call 17;(with_reducible refine (HPA.out _ HB7w.out).mono ?_);rintro e v1 ⟨ja,ka,jb,kb,jc,kc,jd,kd,rfl,hq,hb⟩;have HBv1:=hid (HB7w.out.trans (hb.mono HB7w.out.size));have HQv1:=hid hq;clear hb hq)
   obtain ⟨v2,hv2⟩:∃ W,(v1.alloc (.cells #[.slice ja ml ka,.slice jb mo kb,.slice jc mc kc,.slice jd ms kd,.bool p2.sens,.int .i64 p2.steps,.int .i64 p2.paths,.int .i64 p2.nodes,.int .i64 p2.conf] 26)).alloc (.cells #[.int .i64 0,.int .i64 0] 42)=W:=⟨_,rfl⟩
   have hbx:Below v1.heap.size v1 v2:=by rw [← hv2];exact ((Below.refl _ _).alloc (Nat.le_refl _) _).alloc (by rw [World.size_alloc];omega) _
   have HXv2:=hid (show BxL 26 v1.heap.size [.slice ja ml ka,.slice jb mo kb,.slice jc mc kc,.slice jd ms kd,.bool p2.sens,.int .i64 p2.steps,.int .i64 p2.paths,.int .i64 p2.nodes,.int .i64 p2.conf] v2 from by rw [← hv2];exact (BxL.new _ _ _).al _)
   have HYv2:=hid (show BxL 42 (v1.heap.size+1) [.int .i64 0,.int .i64 0] v2 from by rw [← hv2];have h9:=BxL.new 42 (v1.alloc (.cells #[.slice ja ml ka,.slice jb mo kb,.slice jc mc kc,.slice jd ms kd,.bool p2.sens,.int .i64 p2.steps,.int .i64 p2.paths,.int .i64 p2.nodes,.int .i64 p2.conf] 26)) [.int .i64 0,.int .i64 0];rw [World.size_alloc] at h9;exact h9)
   rw [hv2]
   have HBv2:=hid (HBv1.out.trans (hbx.mono HBv1.out.size))
   have HQv2:=hid (HQv1.out.below hbx)
   clear hbx hv2
   have HSP:=hid (HSP.out v2 HBv2.out)
   obtain ⟨NR,hNR⟩:∃ n,(rowsNL l).length=n:=⟨_,rfl⟩
   rw [hNR] at HSP
   clear hNR
   go_upto_region 15 with (go_at_call 18;(with_reducible refine HSP.out.mono ?_);rintro e v3 ⟨rfl,hz,hb⟩;have HBv3:=hid (HBv2.out.trans (hb.mono HBv2.out.size));have HXv3:=hid (HXv2.out.bel hb);have HQv3:=hid (HQv2.out.below hb);clear hb hz)
   have n0:v3.cell? ⟨v1.heap.size,0,none⟩=some (.slice ja ml ka):=HXv3.out.at 0 rfl
   have n1:v3.cell? ⟨v1.heap.size,1,none⟩=some (.slice jb mo kb):=HXv3.out.at 1 rfl
   have n2:v3.cell? ⟨v1.heap.size,2,none⟩=some (.slice jc mc kc):=HXv3.out.at 2 rfl
   have n3:v3.cell? ⟨v1.heap.size,3,none⟩=some (.slice jd ms kd):=HXv3.out.at 3 rfl
   have n4:v3.cell? ⟨v1.heap.size,4,none⟩=some (.bool p2.sens):=HXv3.out.at 4 rfl
   have n5:v3.cell? ⟨v1.heap.size,5,none⟩=some (.int .i64 p2.steps):=HXv3.out.at 5 rfl
   have n6:v3.cell? ⟨v1.heap.size,6,none⟩=some (.int .i64 p2.paths):=HXv3.out.at 6 rfl
   have n7:v3.cell? ⟨v1.heap.size,7,none⟩=some (.int .i64 p2.nodes):=HXv3.out.at 7 rfl
   have n8:v3.cell? ⟨v1.heap.size,8,none⟩=some (.int .i64 p2.conf):=HXv3.out.at 8 rfl
   go_upto_region 17 with (first
    | (go_at_call 12;(with_reducible refine (HPR2.out _ _ _ _ _ _ _ _ _ HBv3.out HQv3.out).mono ?_);rintro e v4 ⟨rfl,hb⟩;have HBv4:=hid (HBv3.out.trans (hb.mono HBv3.out.size));have HXv4:=hid (HXv3.out.bel hb);have HQv4:=hid (HQv3.out.below hb);clear hb)
    | (go_at_call 17;(with_reducible refine (HPU.out _ HBv4.out).mono ?_);rintro e v5 ⟨ea,ga,eb,gb,ec,gc,ed,gd,rfl,hq,hb⟩;have HBv5:=hid (HBv4.out.trans (hb.mono HBv4.out.size));have HXv5:=hid (HXv4.out.bel hb);have HQv5:=hid (HQv4.out.below hb);have HRv5:=hid hq;clear hb hq))
   clear n0 n1 n2 n3 n4 n5 n6 n7 n8
   obtain ⟨v6,hv2⟩:∃ W,(v5.alloc (.cells #[.slice ea ml ga,.slice eb mo gb,.slice ec mc gc,.slice ed ms gd,.bool p2.sens,.int .i64 p2.steps,.int .i64 p2.paths,.int .i64 p2.nodes,.int .i64 p2.conf] 26)).alloc (.cells #[.int .i64 0,.int .i64 0] 42)=W:=⟨_,rfl⟩
   have hbx:Below v5.heap.size v5 v6:=by rw [← hv2];exact ((Below.refl _ _).alloc (Nat.le_refl _) _).alloc (by rw [World.size_alloc];omega) _
   have HXv6:=hid (show BxL 26 v5.heap.size [.slice ea ml ga,.slice eb mo gb,.slice ec mc gc,.slice ed ms gd,.bool p2.sens,.int .i64 p2.steps,.int .i64 p2.paths,.int .i64 p2.nodes,.int .i64 p2.conf] v6 from by rw [← hv2];exact (BxL.new _ _ _).al _)
   have HYv6:=hid (show BxL 42 (v5.heap.size+1) [.int .i64 0,.int .i64 0] v6 from by rw [← hv2];have h9:=BxL.new 42 (v5.alloc (.cells #[.slice ea ml ga,.slice eb mo gb,.slice ec mc gc,.slice ed ms gd,.bool p2.sens,.int .i64 p2.steps,.int .i64 p2.paths,.int .i64 p2.nodes,.int .i64 p2.conf] 26)) [.int .i64 0,.int .i64 0];rw [World.size_alloc] at h9;exact h9)
   rw [hv2]
   have HBv6:=hid (HBv5.out.trans (hbx.mono HBv5.out.size))
   have HQv6:=hid (HQv5.out.below hbx);have HRv6:=hid (HRv5.out.below hbx)
   have HXP6:=hid (HXv5.out.bel hbx)
   clear hbx hv2
   have n0:v6.cell? ⟨v1.heap.size,0,none⟩=some (.slice ja ml ka):=HXP6.out.at 0 rfl
   have n1:v6.cell? ⟨v1.heap.size,1,none⟩=some (.slice jb mo kb):=HXP6.out.at 1 rfl
   have n2:v6.cell? ⟨v1.heap.size,2,none⟩=some (.slice jc mc kc):=HXP6.out.at 2 rfl
   have n3:v6.cell? ⟨v1.heap.size,3,none⟩=some (.slice jd ms kd):=HXP6.out.at 3 rfl
   have n4:v6.cell? ⟨v1.heap.size,4,none⟩=some (.bool p2.sens):=HXP6.out.at 4 rfl
   have n5:v6.cell? ⟨v1.heap.size,5,none⟩=some (.int .i64 p2.steps):=HXP6.out.at 5 rfl
   have n6:v6.cell? ⟨v1.heap.size,6,none⟩=some (.int .i64 p2.paths):=HXP6.out.at 6 rfl
   have n7:v6.cell? ⟨v1.heap.size,7,none⟩=some (.int .i64 p2.nodes):=HXP6.out.at 7 rfl
   have n8:v6.cell? ⟨v1.heap.size,8,none⟩=some (.int .i64 p2.conf):=HXP6.out.at 8 rfl
   have HHOLD:=hid True.intro
   go_wp2_with (first
    | (go_at_call 7;(with_reducible refine (HCK2.out _ _ _ _ _ _ _ _ _ HBv6.out HQv6.out).mono ?_);rintro e v7 ⟨rfl,hb⟩;have HBv7:=hid (HBv6.out.trans (hb.mono HBv6.out.size));have HQv7:=hid (HQv6.out.below hb);have HRv7:=hid (HRv6.out.below hb);have HXP7:=hid (HXP6.out.bel hb);have HX7:=hid (HXv6.out.bel hb);clear hb;have m0:v7.cell? ⟨v1.heap.size,0,none⟩=some (.slice ja ml ka):=HXP7.out.at 0 rfl;have m1:v7.cell? ⟨v1.heap.size,1,none⟩=some (.slice jb mo kb):=HXP7.out.at 1 rfl;have m2:v7.cell? ⟨v1.heap.size,2,none⟩=some (.slice jc mc kc):=HXP7.out.at 2 rfl;have m3:v7.cell? ⟨v1.heap.size,3,none⟩=some (.slice jd ms kd):=HXP7.out.at 3 rfl;have m4:v7.cell? ⟨v1.heap.size,4,none⟩=some (.bool p2.sens):=HXP7.out.at 4 rfl;have m5:v7.cell? ⟨v1.heap.size,5,none⟩=some (.int .i64 p2.steps):=HXP7.out.at 5 rfl;have m6:v7.cell? ⟨v1.heap.size,6,none⟩=some (.int .i64 p2.paths):=HXP7.out.at 6 rfl;have m7:v7.cell? ⟨v1.heap.size,7,none⟩=some (.int .i64 p2.nodes):=HXP7.out.at 7 rfl;have m8:v7.cell? ⟨v1.heap.size,8,none⟩=some (.int .i64 p2.conf):=HXP7.out.at 8 rfl;have r0:v7.cell? ⟨v5.heap.size,0,none⟩=some (.slice ea ml ga):=HX7.out.at 0 rfl;have r1:v7.cell? ⟨v5.heap.size,1,none⟩=some (.slice eb mo gb):=HX7.out.at 1 rfl;have r2:v7.cell? ⟨v5.heap.size,2,none⟩=some (.slice ec mc gc):=HX7.out.at 2 rfl;have r3:v7.cell? ⟨v5.heap.size,3,none⟩=some (.slice ed ms gd):=HX7.out.at 3 rfl;have r4:v7.cell? ⟨v5.heap.size,4,none⟩=some (.bool p2.sens):=HX7.out.at 4 rfl;have r5:v7.cell? ⟨v5.heap.size,5,none⟩=some (.int .i64 p2.steps):=HX7.out.at 5 rfl;have r6:v7.cell? ⟨v5.heap.size,6,none⟩=some (.int .i64 p2.paths):=HX7.out.at 6 rfl;have r7:v7.cell? ⟨v5.heap.size,7,none⟩=some (.int .i64 p2.nodes):=HX7.out.at 7 rfl;have r8:v7.cell? ⟨v5.heap.size,8,none⟩=some (.int .i64 p2.conf):=HX7.out.at 8 rfl;skip)
    | (go_at_call 15;(with_reducible refine (HEQ2.out _ _ _ _ _ _ _ _ _ _ _ _ _ _ _ _ _ HQv7.out HRv7.out).mono ?_);rintro e v8 ⟨rfl,hb⟩;have HBv8:=hid (HBv7.out.trans (hb.mono HBv7.out.size));clear hb)
    | (go_at_call 10;(with_reducible refine (HAW.out _ HBv8.out).mono ?_);rintro e v9 ⟨rfl,hb⟩;have HBv9:=hid (HBv8.out.trans (hb.mono HBv8.out.size));clear hb))
   go_ret
   exact ⟨rfl,HBv9.out⟩
end Go.Proofs.YtbijamcoibonkaaDoor
