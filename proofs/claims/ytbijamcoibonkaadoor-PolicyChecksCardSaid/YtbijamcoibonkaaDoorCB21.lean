/-
 Reading programs: where what is refused stands. No program in sight.
-/
import Derived.Test.YtbijamcoibonkaaDoorCB19
import Derived.Test.YtbijamcoibonkaaDoorCSPyA
import Derived.Lib.IndexMore
import Derived.Lib.IndexBytes
import Derived.Lib.IndexAny
import Derived.Test.YtbijamcoibonkaaDoorCB13
namespace Go.Proofs.YtbijamcoibonkaaDoor
set_option linter.unusedSimpArgs false
set_option linter.unusedVariables false
open Go.RowKit Go.Shelf
def okE {α:Type} (Q:Int × Int→Prop) (R:α→Prop) (x:PE α):Prop:=match x with | .error f=>f.2 ≠ 0∧Q f.1 | .ok a=>R a
theorem okE.bind {α β:Type} {Q:Int × Int→Prop} {R:α→Prop} {R':β→Prop} {x:PE α} {g:α→PE β} (h:okE Q R x) (hg:∀ a,R a→okE Q R' (g a)):okE Q R' (x >>= g):=by
 cases x with
 | error f=>exact h
 | ok a=>exact hg a h
theorem okE.ok {α:Type} {Q:Int × Int→Prop} {R:α→Prop} {a:α} (h:R a):okE Q R (pure a:PE α):=h
section
variable {Q:Int × Int→Prop} {f:Int × Int} {ws:List Wd}
end
section
variable {Q:Int × Int→Prop} {f:Int × Int} {ws:List Wd} {S:PS}
end
theorem again {l:Bs} {p:Pg} (h:parseE l = .ok p) (hl:l.length≤2000):printM p=(textT (linesT p),0)∧∃ r,parseE (textT (linesT p)) = .ok r∧bareP r=bareP p∧printM r=(textT (linesT p),0):=by
 obtain ⟨hc,hk,_⟩:=parse_cd h
 have hs:=text_short h
 have hp:printM p=(textT (linesT p),0):=by unfold printM;rw [if_neg (by rw [hk];decide),if_neg (by omega)]
 obtain ⟨r,hr,hb⟩:=parse_print p hk hc.num (by omega)
 obtain ⟨hcr,hkr,_⟩:=parse_cd hr
 refine ⟨hp,r,hr,hb,?_⟩
 have e:=(text_iff r p hkr hk hcr.num hc.num).2 hb
 unfold printM
 rw [if_neg (by rw [hkr];decide),e,if_neg (by omega)]
section
variable {f:Int × Int} {ws:List Wd}
end
section
variable {ch ar:List Bs}
end
section
variable {Q:Int × Int→Prop} {p:Pg}
end
def InW (rows:List Bs) (q:Int × Int):Prop:=∃ j c,∃ h:j<rows.length,q=(((j+1:Nat):Int),((c+1:Nat):Int))∧c<rows[j].length
def InT (rows:List Bs) (q:Int × Int):Prop:=∃ j c,∃ h:j<rows.length,q=(((j+1:Nat):Int),((c+1:Nat):Int))∧c≤rows[j].length
theorem InW.t {rows:List Bs} {q:Int × Int} (h:InW rows q):InT rows q:=by
 obtain ⟨j,c,h1,h2,h3⟩:=h
 exact ⟨j,c,h1,h2,Nat.le_of_lt h3⟩
theorem failR_e {r:RS} {pos:Int × Int} {e:Int} (he:e ≠ 0):(failR r pos e).e ≠ 0:=by
 unfold failR;split
 ·exact he
 ·assumption
theorem many0 {n most:Nat} {ws:List Wd} {r:RS} (h:(manyR n most ws r).e=0):n<most∧manyR n most ws r=r:=by
 unfold manyR at h ⊢
 split
 ·rename_i q;rw [if_pos q] at h;exact absurd h (failR_e (by decide))
 ·exact ⟨by omega,rfl⟩
theorem next0 {ws:List Wd} {r:RS} (h:(nextR ws r).2.e=0):r.ix<ws.length∧nextR ws r=(ws.getD r.ix wd0,{ r with ix:=r.ix+1 }):=by
 unfold nextR at h ⊢
 split
 ·rename_i q;exact ⟨q,rfl⟩
 ·rename_i q;rw [if_neg q] at h;exact absurd h (failR_e (by decide))
theorem name0 {ws:List Wd} {r:RS} (h:(nameR ws r).2.e=0):r.ix<ws.length∧nameB (ws.getD r.ix wd0).1=true∧nameR ws r=(ws.getD r.ix wd0,{ r with ix:=r.ix+1 }):=by
 unfold nameR nameQ at h ⊢
 by_cases q:nameB (nextR ws r).1.1=true
 ·rw [if_pos q] at h
  obtain ⟨h1,h2⟩:=next0 h
  rw [h2] at q ⊢
  exact ⟨h1,q,by rw [if_pos q]⟩
 ·rw [if_neg q] at h;exact absurd h (failR_e (by decide))
theorem level0 {ws:List Wd} {r:RS} (h:(levelR ws r).2.e=0):r.ix<ws.length∧r.p.lv.contains (ws.getD r.ix wd0).1=true∧levelR ws r=(lvl r.p.lv (ws.getD r.ix wd0).1,{ r with ix:=r.ix+1 }):=by
 unfold levelR levelQ at h ⊢
 by_cases q:(nameR ws r).2.p.lv.contains (nameR ws r).1.1=true
 ·rw [if_pos q] at h
  obtain ⟨h1,h2,h3⟩:=name0 h
  rw [h3] at q ⊢
  exact ⟨h1,q,by rw [if_pos q]⟩
 ·rw [if_neg q] at h;exact absurd h (failR_e (by decide))
theorem new0 {had:List Bs} {ws:List Wd} {r:RS} (h:(newR had ws r).2.e=0):r.ix<ws.length∧nameB (ws.getD r.ix wd0).1=true∧(ws.getD r.ix wd0).1 ∉ had∧newR had ws r=(ws.getD r.ix wd0,{ r with ix:=r.ix+1 }):=by
 unfold newR newQ at h ⊢
 by_cases q:had.contains (nameR ws r).1.1=true
 ·rw [if_pos q] at h;exact absurd h (failR_e (by decide))
 ·rw [if_neg q] at h
  obtain ⟨h1,h2,h3⟩:=name0 h
  rw [h3] at q ⊢
  exact ⟨h1,h2,fun e=>q (List.contains_iff_mem.2 e),by rw [if_neg q]⟩
theorem number0 {lo hi:Nat} {ws:List Wd} {r:RS} (hh:hi≤1099511627776) (h:(numberR lo hi ws r).2.e=0):r.ix<ws.length∧∃ n:Nat,numR (ws.getD r.ix wd0).1=(n,0)∧lo≤n∧n≤hi∧numberR lo hi ws r=((n:Int),{ r with ix:=r.ix+1 }):=by
 unfold numberR numberQ at h ⊢
 dsimp only at h ⊢
 by_cases q:(numR (nextR ws r).1.1).2 ≠ 0
 ·rw [if_pos q] at h;exact absurd h (failR_e q)
 rw [if_neg q] at h
 by_cases q2:(numR (nextR ws r).1.1).1<lo∨hi<(numR (nextR ws r).1.1).1
 ·rw [if_pos q2] at h;exact absurd h (failR_e (by decide))
 rw [if_neg q2] at h
 obtain ⟨h1,h2⟩:=next0 h
 rw [h2] at q q2 ⊢
 dsimp only at q q2 ⊢
 refine ⟨h1,(numR (ws.getD r.ix wd0).1).1,?_,by omega,by omega,?_⟩
 ·exact Prod.ext rfl (by simpa using q)
 ·rw [if_neg q,if_neg q2,IntWalk.i64_in _ (by omega)]
theorem end0 {ws:List Wd} {r:RS} (h:(endR ws r).e=0):ws.length≤r.ix∧endR ws r=r:=by
 unfold endR at h ⊢
 split
 ·rename_i q;rw [if_pos q] at h;exact absurd h (failR_e (by decide))
 ·exact ⟨by omega,rfl⟩
theorem len_two {ws:List Wd} (h1:1<ws.length) (h2:ws.length≤2):∃ x y,ws=[x,y]:=by
 match ws,h1,h2 with
 | [x,y],_,_=>exact ⟨x,y,rfl⟩
theorem len_three {ws:List Wd} (h1:2<ws.length) (h2:ws.length≤3):∃ x y z,ws=[x,y,z]:=by
 match ws,h1,h2 with
 | [x,y,z],_,_=>exact ⟨x,y,z,rfl⟩
theorem lvl_at {l:List Bs} {s:Bs} (h:l.contains s=true):0≤lvl l s∧lvl l s<(l.length:Int)∧l.getD (lvl l s).toNat []=s:=by
 have hm:=List.contains_iff_mem.1 h
 have hlt:l.idxOf s<l.length:=List.idxOf_lt_length_iff.2 hm
 unfold lvl
 rw [if_pos h]
 refine ⟨by omega,by omega,?_⟩
 rw [Int.toNat_natCast,List.getD_eq_getElem?_getD,List.getElem?_eq_getElem hlt]
 simp
theorem stepG_spec (w:Bs) (a:Nat):∀ (n k:Nat) {m:Nat},stepG w a k n=some m→k≤m∧m<k+n∧(kindL.getD m ([],false)).1=w∧((kindL.getD m ([],false)).2=true∨a<m)∧∀ j,k≤j→j<m→¬ ((kindL.getD j ([],false)).2=false∧a<j)
 | 0,k,m,h=>by cases h
 | n+1,k,m,h=>by
  unfold stepG at h
  split at h
  ·rename_i q
   injection h with h;subst h
   exact ⟨Nat.le_refl _,by omega,q.1,q.2,fun j h1 h2=>by omega⟩
  ·split at h
   ·cases h
   ·rename_i q
    obtain ⟨h1,h2,h3,h4,h5⟩:=stepG_spec w a n (k+1) h
    refine ⟨by omega,by omega,h3,h4,fun j g1 g2=>?_⟩
    by_cases e:j=k
    ·subst e;exact q
    ·exact h5 j (by omega) g2
theorem any_kind:∀ j,j≤8→(kindL.getD j ([],false)).2=decide (j≤3):=by decide
theorem step_spec {w:Bs} {a m:Nat} (ha:a≤8) (h:stepP w a=some m):a≤m∧m≤8∧w=(kindL.getD m ([],false)).1∧(m≤3∨(a≤3∧m=4)∨(4≤a∧m=a+1)):=by
 obtain ⟨h1,h2,h3,h4,h5⟩:=stepG_spec w a _ _ h
 refine ⟨h1,by omega,h3.symm,?_⟩
 by_cases h3m:m≤3
 ·exact .inl h3m
 have h6:a<m:=by
  rcases h4 with e | e
  ·rw [any_kind m (by omega)] at e
   simp at e;omega
  ·exact e
 by_cases h7:a=m - 1
 ·by_cases h8:m=4
  ·exact .inr (.inl ⟨by omega,h8⟩)
  ·exact .inr (.inr ⟨by omega,by omega⟩)
 ·by_cases h8:m=4
  ·exact .inr (.inl ⟨by omega,h8⟩)
  ·exfalso
   refine h5 (m - 1) (by omega) (by omega) ⟨?_,by omega⟩
   rw [any_kind (m - 1) (by omega)]
   simp;omega
inductive Did (p:Po) (ws:List Wd):Nat→Po→Prop
 | level (x y:Wd) (h:ws=[x,y]) (h1:nameB y.1=true) (h2:y.1 ∉ p.lv) (h3:p.lv.length<32):Did p ws 0 { p with lv:=p.lv++[y.1] }
 | order (x y z:Wd) (i j:Int) (h:ws=[x,y,z]) (h1:0≤i∧i<(p.lv.length:Int)∧p.lv.getD i.toNat []=y.1) (h2:0≤j∧j<(p.lv.length:Int)∧p.lv.getD j.toNat []=z.1) (h3:p.od.length<1024):Did p ws 1 { p with od:=p.od++[(i,j)] }
 | chan (x y z:Wd) (i:Int) (h:ws=[x,y,z]) (h1:nameB y.1=true) (h2:y.1 ∉ p.ch.map (·.1)) (h3:0≤i∧i<(p.lv.length:Int)∧p.lv.getD i.toNat []=z.1) (h4:p.ch.length<32):Did p ws 2 { p with ch:=p.ch++[(y.1,i)] }
 | site (x y z:Wd) (i:Int) (h:ws=[x,y,z]) (h1:nameB y.1=true) (h2:y.1 ∉ p.st.map (·.1)) (h3:0≤i∧i<(p.lv.length:Int)∧p.lv.getD i.toNat []=z.1) (h4:p.st.length<32):Did p ws 3 { p with st:=p.st++[(y.1,i)] }
 | mode (x y:Wd) (h:ws=[x,y]) (s:Bool) (h1:y.1=if s then kSens else kInsens):Did p ws 4 { p with sens:=s }
 | steps (x y:Wd) (h:ws=[x,y]) (n:Nat) (h1:numR y.1=(n,0)) (h2:1≤n∧n≤65536):Did p ws 5 { p with steps:=(n:Int) }
 | paths (x y:Wd) (h:ws=[x,y]) (n:Nat) (h1:numR y.1=(n,0)) (h2:1≤n∧n≤4096):Did p ws 6 { p with paths:=(n:Int) }
 | nodes (x y:Wd) (h:ws=[x,y]) (n:Nat) (h1:numR y.1=(n,0)) (h2:n≤1048576):Did p ws 7 { p with nodes:=(n:Int) }
 | conf (x y:Wd) (h:ws=[x,y]) (n:Nat) (h1:numR y.1=(n,0)) (h2:n≤1099511627776):Did p ws 8 { p with conf:=(n:Int) }
theorem bodyQ_r {st st':LS} {ws:List Wd} {k:Nat} (h:bodyQ st ws k = .ok st'):(endR ws (readR k ws ⟨st.p,1,(0,0),0⟩)).e=0∧st'={ st with p:=(endR ws (readR k ws ⟨st.p,1,(0,0),0⟩)).p,k:=k,last:=if k≤1 then wpos (ws.headD wd0) else st.last }:=by
 unfold bodyQ at h
 dsimp only at h
 split at h
 ·cases h
 ·rename_i q
  exact ⟨by simpa using q,by injection h with h;exact h.symm⟩
theorem did_of {st st':LS} {ws:List Wd} {k:Nat} (hk:k≤8) (h:bodyQ st ws k = .ok st'):Did st.p ws k st'.p∧st'.k=k∧st'.ord=st.ord:=by
 obtain ⟨h1,h2⟩:=bodyQ_r h
 obtain ⟨he,hr⟩:=end0 h1
 rw [hr] at h1 h2
 refine ⟨?_,by rw [h2],by rw [h2]⟩
 rw [h2]
 dsimp only
 clear h2 h hr
 obtain rfl | rfl | rfl | rfl | rfl | rfl | rfl | rfl | rfl:k=0∨k=1∨k=2∨k=3∨k=4∨k=5∨k=6∨k=7∨k=8:=by omega
 ·change (levelK ws _).e=0 at h1
  change ws.length≤(levelK ws _).ix at he
  show Did st.p ws 0 (levelK ws _).p
  unfold levelK setP at h1 he ⊢
  dsimp only at h1 he ⊢
  obtain ⟨a1,a2,a3,a4⟩:=new0 h1
  rw [a4] at h1 he ⊢
  obtain ⟨b1,b2⟩:=many0 h1
  rw [b2] at a1 a2 a3 he ⊢
  dsimp only at a1 a2 a3 he ⊢
  obtain ⟨x,y,rfl⟩:=len_two a1 he
  exact .level x y rfl a2 a3 b1
 ·change (orderK ws _).e=0 at h1
  change ws.length≤(orderK ws _).ix at he
  show Did st.p ws 1 (orderK ws _).p
  unfold orderK setP at h1 he ⊢
  dsimp only at h1 he ⊢
  obtain ⟨a1,a2,a3⟩:=level0 h1
  rw [a3] at h1 he ⊢
  obtain ⟨c1,c2,c3⟩:=level0 h1
  rw [c3] at h1 he a1 a2 ⊢
  obtain ⟨b1,b2⟩:=many0 h1
  rw [b2] at a1 a2 c1 c2 he ⊢
  dsimp only at a1 a2 c1 c2 he ⊢
  obtain ⟨x,y,z,rfl⟩:=len_three a1 he
  exact .order x y z _ _ rfl (lvl_at c2) (lvl_at a2) b1
 ·change (chanK ws _).e=0 at h1
  change ws.length≤(chanK ws _).ix at he
  show Did st.p ws 2 (chanK ws _).p
  unfold chanK setP bindR at h1 he ⊢
  dsimp only at h1 he ⊢
  obtain ⟨a1,a2,a3⟩:=level0 h1
  rw [a3] at h1 he ⊢
  obtain ⟨c1,c2,c3,c4⟩:=new0 h1
  rw [c4] at h1 he a1 a2 ⊢
  obtain ⟨b1,b2⟩:=many0 h1
  rw [b2] at a1 a2 c1 c2 c3 he ⊢
  dsimp only at a1 a2 c1 c2 c3 he ⊢
  obtain ⟨x,y,z,rfl⟩:=len_three a1 he
  exact .chan x y z _ rfl c2 c3 (lvl_at a2) b1
 ·change (siteK ws _).e=0 at h1
  change ws.length≤(siteK ws _).ix at he
  show Did st.p ws 3 (siteK ws _).p
  unfold siteK setP bindR at h1 he ⊢
  dsimp only at h1 he ⊢
  obtain ⟨a1,a2,a3⟩:=level0 h1
  rw [a3] at h1 he ⊢
  obtain ⟨c1,c2,c3,c4⟩:=new0 h1
  rw [c4] at h1 he a1 a2 ⊢
  obtain ⟨b1,b2⟩:=many0 h1
  rw [b2] at a1 a2 c1 c2 c3 he ⊢
  dsimp only at a1 a2 c1 c2 c3 he ⊢
  obtain ⟨x,y,z,rfl⟩:=len_three a1 he
  exact .site x y z _ rfl c2 c3 (lvl_at a2) b1
 ·change (modeK ws _).e=0 at h1
  change ws.length≤(modeK ws _).ix at he
  show Did st.p ws 4 (modeK ws _).p
  unfold modeK setP at h1 he ⊢
  dsimp only at h1 he ⊢
  split at h1
  ·exact absurd h1 (failR_e (by decide))
  ·rename_i q
   rw [if_neg q] at he ⊢
   dsimp only at h1 he ⊢
   obtain ⟨a1,a2⟩:=next0 h1
   rw [a2] at he q ⊢
   dsimp only at a1 he q ⊢
   obtain ⟨x,y,rfl⟩:=len_two a1 he
   refine .mode x y rfl _ ?_
   by_cases e:y.1=kSens
   ·simp [e]
   ·have e2:y.1=kInsens:=by
     refine Classical.byContradiction fun e2=>q ⟨e,e2⟩
    simp [e,e2]
 ·change (stepsK ws _).e=0 at h1
  change ws.length≤(stepsK ws _).ix at he
  show Did st.p ws 5 (stepsK ws _).p
  unfold stepsK setP at h1 he ⊢
  dsimp only at h1 he ⊢
  obtain ⟨a1,n,a2,a3,a4,a5⟩:=number0 (by omega) h1
  rw [a5] at he ⊢
  dsimp only at a1 a2 he ⊢
  obtain ⟨x,y,rfl⟩:=len_two a1 he
  exact .steps x y rfl n a2 ⟨a3,a4⟩
 ·change (pathsK ws _).e=0 at h1
  change ws.length≤(pathsK ws _).ix at he
  show Did st.p ws 6 (pathsK ws _).p
  unfold pathsK setP at h1 he ⊢
  dsimp only at h1 he ⊢
  obtain ⟨a1,n,a2,a3,a4,a5⟩:=number0 (by omega) h1
  rw [a5] at he ⊢
  dsimp only at a1 a2 he ⊢
  obtain ⟨x,y,rfl⟩:=len_two a1 he
  exact .paths x y rfl n a2 ⟨a3,a4⟩
 ·change (nodesK ws _).e=0 at h1
  change ws.length≤(nodesK ws _).ix at he
  show Did st.p ws 7 (nodesK ws _).p
  unfold nodesK setP at h1 he ⊢
  dsimp only at h1 he ⊢
  obtain ⟨a1,n,a2,a3,a4,a5⟩:=number0 (by omega) h1
  rw [a5] at he ⊢
  dsimp only at a1 a2 he ⊢
  obtain ⟨x,y,rfl⟩:=len_two a1 he
  exact .nodes x y rfl n a2 a4
 ·change (confK ws _).e=0 at h1
  change ws.length≤(confK ws _).ix at he
  show Did st.p ws 8 (confK ws _).p
  unfold confK setP at h1 he ⊢
  dsimp only at h1 he ⊢
  obtain ⟨a1,n,a2,a3,a4,a5⟩:=number0 (by omega) h1
  rw [a5] at he ⊢
  dsimp only at a1 a2 he ⊢
  obtain ⟨x,y,rfl⟩:=len_two a1 he
  exact .conf x y rfl n a2 a4
end Go.Proofs.YtbijamcoibonkaaDoor
