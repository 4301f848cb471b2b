/-
 Lists turned round by exchanging their ends; a record of an owned row written over.
-/
import Derived.Test.YtbijamcoibonkaaDoorASPoI
import Derived.Laws.OwnMore
namespace Go.Proofs.YtbijamcoibonkaaDoor
set_option linter.unusedSimpArgs false
set_option linter.unusedVariables false
open Go.RowKit Go.Shelf
def Swp {α:Type} (l S:List α) (k:Nat):Prop:=S.length=l.length∧∀ i,i<l.length→S[i]?=if i<k∨l.length - k≤i then l[l.length - 1 - i]? else l[i]?
theorem Swp.zero {α:Type} (l:List α):Swp l l 0:=⟨rfl,fun i hi=>by rw [if_neg (by omega)]⟩
theorem Swp.next {α:Type} {l S:List α} {k:Nat} (h:Swp l S k) (hk:k<l.length / 2) {x y:α} (hx:S[k]?=some x) (hy:S[l.length - 1 - k]?=some y):Swp l ((S.set k y).set (l.length - 1 - k) x) (k+1):=by
 refine ⟨by rw [List.length_set,List.length_set];exact h.1,fun i hi=>?_⟩
 have hk1:=h.2 k (by omega)
 have hk2:=h.2 (l.length - 1 - k) (by omega)
 rw [if_neg (by omega),hx] at hk1
 rw [if_neg (by omega),hy] at hk2
 by_cases e1:i=l.length - 1 - k
 ·subst e1
  rw [List.getElem?_set_self (by rw [List.length_set,h.1];omega),if_pos (by omega),hk1]
  congr 1;omega
 ·rw [List.getElem?_set_ne (fun e=>e1 e.symm)]
  by_cases e2:i=k
  ·subst e2
   rw [List.getElem?_set_self (by rw [h.1];omega),if_pos (by omega),hk2]
  ·rw [List.getElem?_set_ne (fun e=>e2 e.symm),h.2 i hi]
   by_cases c:i<k∨l.length - k≤i
   ·rw [if_pos c,if_pos (by omega)]
   ·rw [if_neg c,if_neg (by omega)]
theorem Swp.fin {α:Type} {l S:List α} (h:Swp l S (l.length / 2)):S=l.reverse:=by
 refine List.ext_getElem? fun i=>?_
 by_cases hi:i<l.length
 ·rw [h.2 i hi,List.getElem?_reverse hi]
  split
  ·rfl
  ·have:i=l.length - 1 - i:=by omega
   rw [← this]
 ·rw [List.getElem?_eq_none (by rw [h.1];omega),List.getElem?_eq_none (by rw [List.length_reverse];omega)]
theorem GA.bindAt {B e:Nat} {w:World} {p:Option Addr} {n c:Nat} {l:List (Bs × Int)} (h:GA kBind B e w (.slice p n c) l) (hn:n=l.length) (h0:0<n) :
  ∃ g,p=some ⟨g,0,none⟩∧B≤g∧g<w.heap.size∧n≤c∧(∀ k x,l[k]?=some x→w.cell? ⟨g,k*2,none⟩=some (.string ⟨x.1.toArray⟩)∧w.cell? ⟨g,k*2+1,none⟩=some (.int .i64 x.2)) ∧
   (∀ j,w.frozen? ⟨g,j,none⟩=false) ∧
   ∀ k x,k<n→GA kBind B e ((w.setCell ⟨g,k*2,none⟩ (.string ⟨x.1.toArray⟩)).setCell ⟨g,k*2+1,none⟩ (.int .i64 x.2)) (.slice p n c) (l.set k x):=by
 subst hn
 obtain ⟨css,h1,h2⟩:=h.row
 have hb0:=h2.lt
 obtain ⟨g,rfl⟩:∃ g,p=some ⟨g,0,none⟩:=by
  rcases h2.2 with ⟨hv,h0'⟩ | ⟨g,cap,cur,hv,_⟩
  ·omega
  ·injection hv with hv;exact ⟨g,hv⟩
 have hc:l.length≤c:=by
  rcases h2.2 with ⟨hv,h0'⟩ | ⟨g',cap,cur,hv,_,_,hc,_⟩
  ·cases hv
  ·cases hv;exact hc
 have hn:=h1.lens
 have hcss:css.length=l.length:=h1.1
 have hflen:css.flatten.length=l.length*2:=by rw [hn.len,h1.1];rfl
 refine ⟨g,rfl,(hb0 g rfl).1,(hb0 g rfl).2,hc,fun k x hx=>?_,fun j=>h2.frozenAt j,fun k x hk=>?_⟩
 ·have hk:k<l.length:=(List.getElem?_eq_some_iff.1 hx).1
  have hkx:l[k]=x:=(List.getElem?_eq_some_iff.1 hx).2
  have hk':k<css.length:=by rw [h1.1];exact hk
  have hE:css[k]=[.string ⟨l[k].1.toArray⟩,.int .i64 l[k].2]:=h1.2 k hk hk'
  have a0:=hn.at k 0 hk' (by decide)
  have a1:=hn.at k 1 hk' (by decide)
  rw [hE,hkx] at a0 a1
  exact ⟨(h2.cellAt (k*2) (show k*2<l.length*2 by omega)).trans a0,(h2.cellAt (k*2+1) (show k*2+1<l.length*2 by omega)).trans a1⟩
 ·have hk':k<css.length:=by rw [h1.1];exact hk
  have s1:=(h2.stored (k*2) (.string ⟨x.1.toArray⟩)).1
  have s2:=(s1.stored (k*2+1) (.int .i64 x.2)).1
  have hlen2:css[k].length=2:=by rw [h1.2 k hk hk'];rfl
  have t1:=hn.set k 0 hk' (by decide) (.string ⟨x.1.toArray⟩)
  have t1:(css.set k (css[k].set 0 (.string ⟨x.1.toArray⟩))).flatten=css.flatten.set (k*2) (.string ⟨x.1.toArray⟩):=t1
  have hE:css[k]=[.string ⟨l[k].1.toArray⟩,.int .i64 l[k].2]:=h1.2 k hk hk'
  let css1:=css.set k (css[k].set 0 (.string ⟨x.1.toArray⟩))
  have hl1:LenN 2 css1:=by
   intro cs hcs
   rcases List.mem_or_eq_of_mem_set hcs with h | h
   ·exact hn cs h
   ·rw [h,List.length_set];exact hlen2
  have hk1:k<css1.length:=by show k<(css.set _ _).length;rw [List.length_set];exact hk'
  have t2:=hl1.set k 1 hk1 (by decide) (.int .i64 x.2)
  have e1:css1[k]=[.string ⟨x.1.toArray⟩,.int .i64 l[k].2]:=by show (css.set k _)[k]=_;rw [List.getElem_set_self,hE];rfl
  have t2:(css1.set k (css1[k].set 1 (.int .i64 x.2))).flatten=css1.flatten.set (k*2+1) (.int .i64 x.2):=t2
  have t3:(css.set k [.string ⟨x.1.toArray⟩,.int .i64 x.2]).flatten=(css.flatten.set (k*2) (.string ⟨x.1.toArray⟩)).set (k*2+1) (.int .i64 x.2):=by
   rw [← t1]
   show _=css1.flatten.set _ _
   rw [← t2,e1]
   show (css.set k _).flatten=((css.set k _).set k _).flatten
   rw [List.set_set];rfl
  refine ⟨⟨css.set k [.string ⟨x.1.toArray⟩,.int .i64 x.2],⟨by rw [List.length_set,List.length_set];exact h1.1,fun i hi hi'=>?_⟩,?_⟩⟩
  ·show (css.set k _)[i]=[.string ⟨(l.set k x)[i].1.toArray⟩,.int .i64 (l.set k x)[i].2]
   by_cases e:i=k
   ·subst e;rw [List.getElem_set_self,List.getElem_set_self]
   ·rw [List.getElem_set_ne (fun c=>e c.symm),List.getElem_set_ne (fun c=>e c.symm)]
    exact h1.2 i (by simpa using hi) (by simpa using hi')
  ·rw [t3,List.length_set];exact s2
end Go.Proofs.YtbijamcoibonkaaDoor
