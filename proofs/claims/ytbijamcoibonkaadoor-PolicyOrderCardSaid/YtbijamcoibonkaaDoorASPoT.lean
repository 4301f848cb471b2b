/-
 The law PolicyOrder, plainly; the reference's lattices are the program's (no program in sight).
-/
import Derived.Test.YtbijamcoibonkaaDoorASPoS
namespace Go.Proofs.YtbijamcoibonkaaDoor
set_option linter.unusedSimpArgs false
set_option linter.unusedVariables false
open Go.RowKit Go.Shelf
def revP (p:Po):Po:={ p with ch:=p.ch.reverse,st:=p.st.reverse }
theorem nodup_rev (l:List Bs):l.reverse.Nodup ↔ l.Nodup:=by
 unfold List.Nodup
 rw [List.pairwise_reverse]
 exact ⟨fun h=>h.imp fun h=>h.symm,fun h=>h.imp fun h=>h.symm⟩
theorem rev_ok (p:Po):checkP (revP p)=0 ↔ checkP p=0:=by
 rw [checkP_iff,checkP_iff]
 constructor
 ·intro h
  have a:=h.ch;have b:=h.st
  simp only [revP,List.length_reverse,List.mem_reverse,List.map_reverse] at a b
  exact ⟨h.ne,h.len,h.lv,h.lat,⟨a.1,a.2.1,(nodup_rev _).1 a.2.2⟩,⟨b.1,b.2.1,(nodup_rev _).1 b.2.2⟩,h.rg⟩
 ·intro h
  have a:=h.ch;have b:=h.st
  refine ⟨h.ne,h.len,h.lv,h.lat,?_,?_,h.rg⟩
  ·simp only [revP,List.length_reverse,List.mem_reverse,List.map_reverse]
   exact ⟨a.1,a.2.1,(nodup_rev _).2 a.2.2⟩
  ·simp only [revP,List.length_reverse,List.mem_reverse,List.map_reverse]
   exact ⟨b.1,b.2.1,(nodup_rev _).2 b.2.2⟩
def plainLv (p:Po):Po:={ p1P with lv:=p.lv,od:=p.od,ch:=[] }
theorem levelsE_vals:∀ (l had:List Bs),levelsE had l=0∨levelsE had l=4∨levelsE had l=8
 | [],_ => .inl rfl
 | s :: r,had=>by
  unfold levelsE
  split
  ·exact .inr (.inl rfl)
  split
  ·exact .inr (.inr rfl)
  ·exact levelsE_vals r _
theorem order_law (p:Po):(checkP p=0→latE p.lv.length p.od=0) ∧
  ((latE p.lv.length p.od=0∨checkP (plainLv p) ≠ 0)∧(checkP (plainLv p)=latE p.lv.length p.od∨p.lv=[]∨32<p.lv.length∨checkP (plainLv p)=4∨checkP (plainLv p)=8)):=by
 refine ⟨fun h=>((checkP_iff p).1 h).lat,?_⟩
 unfold checkP
 show (_∨(if p.lv=[] then (4:Int) else if 32<p.lv.length then 5 else orE (levelsE [] p.lv) (orE (latE p.lv.length p.od) 0)) ≠ 0)∧((if p.lv=[] then (4:Int) else if 32<p.lv.length then 5 else orE (levelsE [] p.lv) (orE (latE p.lv.length p.od) 0))=_∨_∨_∨(if p.lv=[] then (4:Int) else if 32<p.lv.length then 5 else orE (levelsE [] p.lv) (orE (latE p.lv.length p.od) 0))=4∨(if p.lv=[] then (4:Int) else if 32<p.lv.length then 5 else orE (levelsE [] p.lv) (orE (latE p.lv.length p.od) 0))=8)
 by_cases h1:p.lv=[]
 ·rw [if_pos h1]
  exact ⟨.inr (by decide),.inr (.inl h1)⟩
 rw [if_neg h1]
 by_cases h2:32<p.lv.length
 ·rw [if_pos h2]
  exact ⟨.inr (by decide),.inr (.inr (.inl h2))⟩
 rw [if_neg h2]
 have hl:orE (latE p.lv.length p.od) 0=latE p.lv.length p.od:=by unfold orE;split <;> simp_all
 rw [hl]
 rcases levelsE_vals p.lv [] with e | e | e
 ·rw [e]
  simp only [orE,if_true]
  exact ⟨Decidable.or_iff_not_imp_left.2 fun h=>h,.inl trivial⟩
 ·rw [e]
  exact ⟨.inr (by simp [orE]),by simp [orE]⟩
 ·rw [e]
  exact ⟨.inr (by simp [orE]),by simp [orE]⟩
abbrev Mx:=Nat→Nat→Bool
def setM (M:Mx) (a b:Nat) (v:Bool):Mx:=fun i j=>if i=a∧j=b then v else M i j
def closeJ (k i m:Nat) (M:Mx):Mx:=(List.range m).foldl (fun M j=>setM M i j (M i j || M i k && M k j)) M
def closeMI (k n m:Nat) (M:Mx):Mx:=(List.range m).foldl (fun M i=>closeJ k i n M) M
def closeMK (n m:Nat) (M:Mx):Mx:=(List.range m).foldl (fun M k=>closeMI k n n M) M
structure RelM (n:Nat) (u:List Nat) (M:Mx):Prop where
 len:u.length=32
 bit:∀ i,i<n→∀ j,(u.getD i 0).testBit j=(decide (j<n) && M i j)
 self:∀ i,i<n→M i i=true
theorem getD_set (u:List Nat) (i k v:Nat) (hi:i<u.length):(u.set i v).getD k 0=if k=i then v else u.getD k 0:=by
 rw [List.getD_eq_getElem?_getD,List.getD_eq_getElem?_getD,List.getElem?_set]
 by_cases h:i=k
 ·subst h;simp [hi]
 ·rw [if_neg h,if_neg (fun e=>h e.symm)]
theorem RelM.ord {n:Nat} {u:List Nat} {M:Mx} (h:RelM n u M) (hn:n≤32) {p:Int × Int} (hp:pairB n p=true):RelM n (ordS u p) (setM M p.1.toNat p.2.toNat true):=by
 unfold pairB at hp
 simp only [Bool.and_eq_true,decide_eq_true_eq] at hp
 refine ⟨by unfold ordS;rw [List.length_set];exact h.len,fun i hi j=>?_,fun i hi=>?_⟩
 ·unfold ordS
  rw [getD_set _ _ _ _ (by rw [h.len];omega)]
  unfold setM
  by_cases e:i=p.1.toNat
  ·rw [if_pos e,Nat.testBit_or,Nat.testBit_two_pow,h.bit _ (by omega)]
   by_cases e2:j=p.2.toNat
   ·subst e2;have:p.2.toNat<n:=by omega
    simp [e,this]
   ·have e3:¬ p.2.toNat=j:=fun q=>e2 q.symm
    simp [e,e2,e3]
  ·rw [if_neg e,h.bit i hi]
   simp [e]
 ·unfold setM;split
  ·rfl
  ·exact h.self i hi
theorem closeJ_at (k i:Nat) (M:Mx) (hk:M k k=true):∀ m a b,closeJ k i m M a b=if a=i∧b<m then M a b || M a k && M k b else M a b:=by
 intro m
 induction m with
 | zero=>intro a b;simp [closeJ]
 | succ m ih =>
  intro a b
  have e:closeJ k i (m+1) M=setM (closeJ k i m M) i m (closeJ k i m M i m || closeJ k i m M i k && closeJ k i m M k m):=by
   simp [closeJ,List.range_succ]
  rw [e]
  unfold setM
  by_cases h:a=i∧b=m
  ·obtain ⟨rfl,rfl⟩:=h
   rw [if_pos ⟨rfl,rfl⟩,if_pos ⟨rfl,by omega⟩,ih,ih,ih]
   rw [if_neg (by omega)]
   by_cases hka:k=a
   ·subst hka
    simp
   ·have h1:(if a=a∧k<b then M a k || M a k && M k k else M a k)=M a k:=by
     split <;> simp [hk]
    rw [h1,if_neg (by rintro ⟨q,_⟩;exact hka q)]
  ·rw [if_neg h,ih]
   by_cases h2:a=i∧b<m
   ·rw [if_pos h2,if_pos ⟨h2.1,by omega⟩]
   ·rw [if_neg h2,if_neg (by rintro ⟨q1,q2⟩;exact h2 ⟨q1,by have:b ≠ m:=fun e=>h ⟨q1,e⟩;omega⟩)]
theorem RelM.close {n:Nat} {u:List Nat} {M:Mx} (h:RelM n u M) (hn:n≤32) {k i:Nat} (hk:k<n) (hi:i<n):RelM n (closeS k u i) (closeJ k i n M):=by
 have hu:=h.len
 refine ⟨by unfold closeS;split;rw [List.length_set];exact hu;exact hu,fun a ha j=>?_,fun a ha=>?_⟩
 ·rw [closeJ_at k i M (h.self k hk)]
  unfold closeS
  have hik:=h.bit i hi k
  simp only [hk,decide_true,Bool.true_and] at hik
  by_cases hb:(u.getD i 0).testBit k=true
  ·rw [if_pos hb,getD_set _ _ _ _ (by omega)]
   rw [hb] at hik
   by_cases e:a=i
   ·subst e
    rw [if_pos rfl,Nat.testBit_or,h.bit a ha,h.bit k hk]
    by_cases hj:j<n
    ·simp [hj,← hik]
    ·simp [hj]
   ·rw [if_neg e,if_neg (by rintro ⟨q,_⟩;exact e q),h.bit a ha]
  ·rw [if_neg hb,h.bit a ha]
   have hik':M i k=false:=by rw [← hik];simpa using hb
   by_cases e:a=i
   ·subst e
    by_cases hj:j<n
    ·simp [hj,hik']
    ·simp [hj]
   ·rw [if_neg (by rintro ⟨q,_⟩;exact e q)]
 ·rw [closeJ_at k i M (h.self k hk)]
  split
  ·simp [h.self a ha]
  ·exact h.self a ha
theorem RelM.closeI {n:Nat} {u:List Nat} {M:Mx} (h:RelM n u M) (hn:n≤32) {k:Nat} (hk:k<n):∀ m,m≤n→RelM n (closeI k m u) (closeMI k n m M)
 | 0,_=>h
 | m+1,hm=>by
  have:=(RelM.closeI h hn hk m (by omega)).close hn hk (i:=m) (by omega)
  simpa [Proofs.YtbijamcoibonkaaDoor.closeI,closeMI,List.range_succ] using this
theorem RelM.closeK {n:Nat} {u:List Nat} {M:Mx} (h:RelM n u M) (hn:n≤32):∀ m,m≤n→RelM n (closeK n m u) (closeMK n m M)
 | 0,_=>h
 | m+1,hm=>by
  have:=(RelM.closeK h hn m (by omega)).closeI hn (k:=m) (by omega) n (Nat.le_refl _)
  simpa [Proofs.YtbijamcoibonkaaDoor.closeK,closeMK,List.range_succ] using this
theorem sub_bits {a b:Nat}:a &&& b=a ↔ ∀ j,a.testBit j=true→b.testBit j=true:=by
 constructor
 ·intro h j hj
  have:=congrArg (fun x=>x.testBit j) h
  simp only [Nat.testBit_and,hj,Bool.true_and] at this
  exact this
 ·intro h
  refine Nat.eq_of_testBit_eq fun j=>?_
  rw [Nat.testBit_and]
  by_cases hj:a.testBit j=true
  ·rw [hj,h j hj];rfl
  ·simp at hj;rw [hj];rfl
end Go.Proofs.YtbijamcoibonkaaDoor
