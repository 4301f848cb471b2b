/-
 The law PolicyOrder, plainly; the reference's lattices are the program's (no program in sight).
-/
import Derived.Test.YtbijamcoibonkaaDoorCSPoS
namespace Go.Proofs.YtbijamcoibonkaaDoor
set_option linter.unusedSimpArgs false
set_option linter.unusedVariables false
open Go.RowKit Go.Shelf
abbrev Mx:=Nat→Nat→Bool
def setM (M:Mx) (a b:Nat) (v:Bool):Mx:=fun i j=>if i=a∧j=b then v else M i j
def idM:Mx:=fun i j=>decide (i=j)
def ordM (n:Nat):List (Int × Int)→Mx→Option Mx
 | [],M=>some M
 | p :: r,M=>if pairB n p then ordM n r (setM M p.1.toNat p.2.toNat true) else none
def closeJ (k i m:Nat) (M:Mx):Mx:=(List.range m).foldl (fun M j=>setM M i j (M i j || M i k && M k j)) M
def closeMI (k n m:Nat) (M:Mx):Mx:=(List.range m).foldl (fun M i=>closeJ k i n M) M
def closeMK (n m:Nat) (M:Mx):Mx:=(List.range m).foldl (fun M k=>closeMI k n n M) M
def loopyM (M:Mx) (n:Nat):Bool:=(List.range n).any fun i=>(List.range i).any fun j=>M i j && M j i
def joinM (M:Mx) (n a b:Nat):Bool:=(List.range n).any fun c=>(M a c && M b c) && (List.range n).all fun d=>M c d || !M a d || !M b d
def meetM (M:Mx) (n a b:Nat):Bool:=(List.range n).any fun c=>(M c a && M c b) && (List.range n).all fun d=>M d c || !M d a || !M d b
def boundsM (M:Mx) (n:Nat):Bool:=(List.range n).all fun i=>(List.range n).all fun j=>joinM M n i j && meetM M n i j
def rlatT (n:Nat) (M:Mx):Int:=if loopyM M n then 9 else if boundsM M n then 0 else 4
def rlatE (n:Nat) (od:List (Int × Int)):Int :=
 if n<1∨32<n then 3 else if 1024<od.length then 5 else
 match ordM n od idM with
 | none=>3
 | some M=>rlatT n (closeMK n n M)
structure RelM (n:Nat) (u:List Nat) (M:Mx):Prop where
 len:u.length=32
 bit:∀ i,i<n→∀ j,(u.getD i 0).testBit j=(decide (j<n) && M i j)
 self:∀ i,i<n→M i i=true
theorem getD_set (u:List Nat) (i k v:Nat) (hi:i<u.length):(u.set i v).getD k 0=if k=i then v else u.getD k 0:=by
 rw [List.getD_eq_getElem?_getD,List.getD_eq_getElem?_getD,List.getElem?_set]
 by_cases h:i=k
 ·subst h;simp [hi]
 ·rw [if_neg h,if_neg (fun e=>h e.symm)]
theorem RelM.start {n:Nat} (hn:n≤32):RelM n (upsL n) idM:=by
 refine ⟨by simp [upsL];omega,fun i hi j=>?_,fun i _=>by simp [idM]⟩
 have e:(upsL n).getD i 0=2 ^ i:=by
  unfold upsL
  rw [List.getD_eq_getElem?_getD,List.getElem?_append_left (by simpa using hi),List.getElem?_map,List.getElem?_range hi]
  rfl
 rw [e,Nat.testBit_two_pow]
 unfold idM
 by_cases h:i=j
 ·subst h;simp [hi]
 ·simp [h]
theorem RelM.ord {n:Nat} {u:List Nat} {M:Mx} (h:RelM n u M) (hn:n≤32) {p:Int × Int} (hp:pairB n p=true):RelM n (ordS u p) (setM M p.1.toNat p.2.toNat true):=by
 unfold pairB at hp
 simp only [Bool.and_eq_true,decide_eq_true_eq] at hp
 refine ⟨by unfold ordS;rw [List.length_set];exact h.len,fun i hi j=>?_,fun i hi=>?_⟩
 ·unfold ordS
  rw [getD_set _ _ _ _ (by rw [h.len];omega)]
  unfold setM
  by_cases e:i=p.1.toNat
  ·rw [if_pos e,Nat.testBit_or,Nat.testBit_two_pow,h.bit _ (by omega)]
   by_cases e2:j=p.2.toNat
   ·subst e2;have:p.2.toNat<n:=by omega
    simp [e,this]
   ·have e3:¬ p.2.toNat=j:=fun q=>e2 q.symm
    simp [e,e2,e3]
  ·rw [if_neg e,h.bit i hi]
   simp [e]
 ·unfold setM;split
  ·rfl
  ·exact h.self i hi
theorem ord_rel {n:Nat} (hn:n≤32):∀ (od:List (Int × Int)) {u:List Nat} {M:Mx},RelM n u M→(ordL n od u=none∧ordM n od M=none)∨∃ u' M',ordL n od u=some u'∧ordM n od M=some M'∧RelM n u' M'
 | [],u,M,h => .inr ⟨u,M,rfl,rfl,h⟩
 | p :: r,u,M,h=>by
  unfold ordL ordM
  by_cases hp:pairB n p=true
  ·rw [if_pos hp,if_pos hp]
   exact ord_rel hn r (h.ord hn hp)
  ·rw [if_neg hp,if_neg hp]
   exact .inl ⟨rfl,rfl⟩
theorem closeJ_at (k i:Nat) (M:Mx) (hk:M k k=true):∀ m a b,closeJ k i m M a b=if a=i∧b<m then M a b || M a k && M k b else M a b:=by
 intro m
 induction m with
 | zero=>intro a b;simp [closeJ]
 | succ m ih =>
  intro a b
  have e:closeJ k i (m+1) M=setM (closeJ k i m M) i m (closeJ k i m M i m || closeJ k i m M i k && closeJ k i m M k m):=by
   simp [closeJ,List.range_succ]
  rw [e]
  unfold setM
  by_cases h:a=i∧b=m
  ·obtain ⟨rfl,rfl⟩:=h
   rw [if_pos ⟨rfl,rfl⟩,if_pos ⟨rfl,by omega⟩,ih,ih,ih]
   rw [if_neg (by omega)]
   by_cases hka:k=a
   ·subst hka
    simp
   ·have h1:(if a=a∧k<b then M a k || M a k && M k k else M a k)=M a k:=by
     split <;> simp [hk]
    rw [h1,if_neg (by rintro ⟨q,_⟩;exact hka q)]
  ·rw [if_neg h,ih]
   by_cases h2:a=i∧b<m
   ·rw [if_pos h2,if_pos ⟨h2.1,by omega⟩]
   ·rw [if_neg h2,if_neg (by rintro ⟨q1,q2⟩;exact h2 ⟨q1,by have:b ≠ m:=fun e=>h ⟨q1,e⟩;omega⟩)]
theorem RelM.close {n:Nat} {u:List Nat} {M:Mx} (h:RelM n u M) (hn:n≤32) {k i:Nat} (hk:k<n) (hi:i<n):RelM n (closeS k u i) (closeJ k i n M):=by
 have hu:=h.len
 refine ⟨by unfold closeS;split;rw [List.length_set];exact hu;exact hu,fun a ha j=>?_,fun a ha=>?_⟩
 ·rw [closeJ_at k i M (h.self k hk)]
  unfold closeS
  have hik:=h.bit i hi k
  simp only [hk,decide_true,Bool.true_and] at hik
  by_cases hb:(u.getD i 0).testBit k=true
  ·rw [if_pos hb,getD_set _ _ _ _ (by omega)]
   rw [hb] at hik
   by_cases e:a=i
   ·subst e
    rw [if_pos rfl,Nat.testBit_or,h.bit a ha,h.bit k hk]
    by_cases hj:j<n
    ·simp [hj,← hik]
    ·simp [hj]
   ·rw [if_neg e,if_neg (by rintro ⟨q,_⟩;exact e q),h.bit a ha]
  ·rw [if_neg hb,h.bit a ha]
   have hik':M i k=false:=by rw [← hik];simpa using hb
   by_cases e:a=i
   ·subst e
    by_cases hj:j<n
    ·simp [hj,hik']
    ·simp [hj]
   ·rw [if_neg (by rintro ⟨q,_⟩;exact e q)]
 ·rw [closeJ_at k i M (h.self k hk)]
  split
  ·simp [h.self a ha]
  ·exact h.self a ha
theorem RelM.closeI {n:Nat} {u:List Nat} {M:Mx} (h:RelM n u M) (hn:n≤32) {k:Nat} (hk:k<n):∀ m,m≤n→RelM n (closeI k m u) (closeMI k n m M)
 | 0,_=>h
 | m+1,hm=>by
  have:=(RelM.closeI h hn hk m (by omega)).close hn hk (i:=m) (by omega)
  simpa [Proofs.YtbijamcoibonkaaDoor.closeI,closeMI,List.range_succ] using this
theorem RelM.closeK {n:Nat} {u:List Nat} {M:Mx} (h:RelM n u M) (hn:n≤32):∀ m,m≤n→RelM n (closeK n m u) (closeMK n m M)
 | 0,_=>h
 | m+1,hm=>by
  have:=(RelM.closeK h hn m (by omega)).closeI hn (k:=m) (by omega) n (Nat.le_refl _)
  simpa [Proofs.YtbijamcoibonkaaDoor.closeK,closeMK,List.range_succ] using this
theorem downS_len (u:List Nat) (i k:Nat) (d:List Nat):(downS u i d k).length=d.length:=by unfold downS;split <;> simp
theorem downI_spec (u:List Nat) (i:Nat) (d:List Nat) (hd:d.length=32):∀ m,m≤32→(downI u i m d).length=32∧∀ k j,((downI u i m d).getD k 0).testBit j=((d.getD k 0).testBit j || (decide (k<m) && decide (j=i) && (u.getD i 0).testBit k))
 | 0,_=>⟨hd,fun k j=>by simp [downI]⟩
 | m+1,hm=>by
  obtain ⟨h1,h2⟩:=downI_spec u i d hd m (by omega)
  have e:downI u i (m+1) d=downS u i (downI u i m d) m:=by simp [downI,List.range_succ]
  rw [e]
  refine ⟨by rw [downS_len];exact h1,fun k j=>?_⟩
  unfold downS
  by_cases hb:(u.getD i 0).testBit m=true
  ·rw [if_pos hb,getD_set _ _ _ _ (by omega)]
   by_cases hk:k=m
   ·subst hk
    rw [if_pos rfl,Nat.testBit_or,h2,Nat.testBit_two_pow]
    by_cases hj:j=i
    ·subst hj;rw [hb];simp
    ·have:¬ i=j:=fun q=>hj q.symm
     simp [hj,this]
   ·rw [if_neg hk,h2]
    have:decide (k<m+1)=decide (k<m):=by simp;omega
    rw [this]
  ·rw [if_neg hb,h2]
   by_cases hk:k=m
   ·subst hk
    simp at hb
    simp [hb]
   ·have:decide (k<m+1)=decide (k<m):=by simp;omega
    rw [this]
theorem downK_spec (u:List Nat) (n:Nat) (hn:n≤32):∀ m,m≤n→(downK u n m (List.replicate 32 0)).length=32∧∀ k j,((downK u n m (List.replicate 32 0)).getD k 0).testBit j=(decide (k<n) && decide (j<m) && (u.getD j 0).testBit k)
 | 0,_=>⟨by simp [downK],fun k j=>by
   have:(List.replicate 32 0).getD k 0=0:=by
    rw [List.getD_eq_getElem?_getD,List.getElem?_replicate];split <;> rfl
   show ((List.replicate 32 0).getD k 0).testBit j=_
   rw [this];simp⟩
 | m+1,hm=>by
  obtain ⟨h1,h2⟩:=downK_spec u n hn m (by omega)
  have e:downK u n (m+1) (List.replicate 32 0)=downI u m n (downK u n m (List.replicate 32 0)):=by simp [downK,List.range_succ]
  rw [e]
  obtain ⟨g1,g2⟩:=downI_spec u m _ h1 n hn
  refine ⟨g1,fun k j=>?_⟩
  rw [g2,h2]
  by_cases hj:j=m
  ·subst hj;simp
  ·have:decide (j<m+1)=decide (j<m):=by simp;omega
   rw [this];simp [hj]
theorem down_bit {n:Nat} {u:List Nat} {M:Mx} (h:RelM n u M) (hn:n≤32) (k j:Nat) (hk:k<n):((downK u n n (List.replicate 32 0)).getD k 0).testBit j=(decide (j<n) && M j k):=by
 rw [(downK_spec u n hn n (Nat.le_refl _)).2]
 by_cases hj:j<n
 ·rw [h.bit j hj];simp [hk,hj]
 ·simp [hj]
theorem loopy_rel {n:Nat} {u:List Nat} {M:Mx} (h:RelM n u M) (hn:n≤32):loopyB u (downK u n n (List.replicate 32 0)) n=loopyM M n:=by
 rw [Bool.eq_iff_iff]
 unfold loopyB loopyM
 simp only [List.any_eq_true,List.mem_range,decide_eq_true_eq,Bool.and_eq_true]
 constructor
 ·rintro ⟨i,hi,hne⟩
  have:∃ j,(u.getD i 0 &&& (downK u n n (List.replicate 32 0)).getD i 0).testBit j ≠ (2 ^ i).testBit j:=by
   refine Classical.byContradiction fun hc=>hne (Nat.eq_of_testBit_eq fun j=>?_)
   exact Classical.byContradiction fun q=>hc ⟨j,q⟩
  obtain ⟨j,hj⟩:=this
  rw [Nat.testBit_and,h.bit i hi,down_bit h hn i j hi,Nat.testBit_two_pow] at hj
  by_cases hij:i=j
  ·subst hij
   simp [hi,h.self i hi] at hj
  ·have hjn:j<n:=by
    refine Classical.byContradiction fun q=>hj ?_
    simp [q,hij]
   simp [hij,hjn] at hj
   rcases Nat.lt_or_ge j i with q | q
   ·exact ⟨i,hi,j,q,hj.1,hj.2⟩
   ·exact ⟨j,hjn,i,by omega,hj.2,hj.1⟩
 ·rintro ⟨i,hi,j,hj,h1,h2⟩
  refine ⟨i,hi,fun e=>?_⟩
  have:=congrArg (fun x=>x.testBit j) e
  simp only [Nat.testBit_and,Nat.testBit_two_pow] at this
  rw [h.bit i hi,down_bit h hn i j hi] at this
  have hij:¬ i=j:=by omega
  have hjn:j<n:=by omega
  simp [hij,hjn,h1,h2] at this
theorem sub_bits {a b:Nat}:a &&& b=a ↔ ∀ j,a.testBit j=true→b.testBit j=true:=by
 constructor
 ·intro h j hj
  have:=congrArg (fun x=>x.testBit j) h
  simp only [Nat.testBit_and,hj,Bool.true_and] at this
  exact this
 ·intro h
  refine Nat.eq_of_testBit_eq fun j=>?_
  rw [Nat.testBit_and]
  by_cases hj:a.testBit j=true
  ·rw [hj,h j hj];rfl
  ·simp at hj;rw [hj];rfl
theorem bound_rel {n:Nat} {s:List Nat} {T:Mx} (hn:n≤32) (hb:∀ i,i<n→∀ j,(s.getD i 0).testBit j=(decide (j<n) && T i j)) (a b:Nat) (ha:a<n) (hbn:b<n) :
  boundB s (s.getD a 0 &&& s.getD b 0)=(List.range n).any fun c=>(T a c && T b c) && (List.range n).all fun d=>T c d || !T a d || !T b d:=by
 rw [Bool.eq_iff_iff]
 unfold boundB
 simp only [List.any_eq_true,List.all_eq_true,List.mem_range,decide_eq_true_eq,Bool.and_eq_true,sub_bits,Nat.testBit_and]
 constructor
 ·rintro ⟨c,hc,⟨h1,h2⟩,h3⟩
  rw [hb a ha] at h1
  rw [hb b hbn] at h2
  simp only [Bool.and_eq_true,decide_eq_true_eq] at h1 h2
  refine ⟨c,h1.1,⟨h1.2,h2.2⟩,fun d hd=>?_⟩
  have:=h3 d
  rw [hb a ha,hb b hbn,hb c h1.1] at this
  simp only [hd,decide_true,Bool.true_and] at this
  cases hx:T a d <;> cases hy:T b d <;> simp_all
 ·rintro ⟨c,hc,⟨h1,h2⟩,h3⟩
  refine ⟨c,by omega,⟨by rw [hb a ha];simp [hc,h1],by rw [hb b hbn];simp [hc,h2]⟩,fun d hd=>?_⟩
  rw [hb a ha,hb b hbn] at hd
  simp only [Bool.and_eq_true,decide_eq_true_eq] at hd
  have:=h3 d hd.1.1
  rw [hb c hc]
  simp_all
theorem all_congr {l:List Nat} {f g:Nat→Bool} (h:∀ x ∈ l,f x=g x):l.all f=l.all g:=by
 induction l with
 | nil=>rfl
 | cons a r ih=>rw [List.all_cons,List.all_cons,h a (by simp),ih fun x hx=>h x (List.mem_cons_of_mem _ hx)]
theorem whole_rel {n:Nat} {u:List Nat} {M:Mx} (h:RelM n u M) (hn:n≤32):(wholeB u n && wholeB (downK u n n (List.replicate 32 0)) n)=boundsM M n:=by
 have h1:wholeB u n=(List.range n).all fun i=>(List.range n).all fun j=>joinM M n i j:=by
  unfold wholeB
  refine all_congr fun i hi=>all_congr fun j hj=>?_
  exact bound_rel hn h.bit i j (List.mem_range.1 hi) (List.mem_range.1 hj)
 have h2:wholeB (downK u n n (List.replicate 32 0)) n=(List.range n).all fun i=>(List.range n).all fun j=>meetM M n i j:=by
  unfold wholeB
  refine all_congr fun i hi=>all_congr fun j hj=>?_
  exact bound_rel (T:=fun a b=>M b a) hn (fun i hi j=>down_bit h hn i j hi) i j (List.mem_range.1 hi) (List.mem_range.1 hj)
 rw [h1,h2,Bool.eq_iff_iff]
 unfold boundsM
 simp only [Bool.and_eq_true,List.all_eq_true]
 exact ⟨fun h i hi j hj=>⟨h.1 i hi j hj,h.2 i hi j hj⟩,fun h=>⟨fun i hi j hj=>(h i hi j hj).1,fun i hi j hj=>(h i hi j hj).2⟩⟩
theorem rlat_eq (n:Nat) (od:List (Int × Int)):rlatE n od=latE n od:=by
 unfold rlatE latE
 by_cases h1:n<1∨32<n
 ·rw [if_pos h1,if_pos h1]
 rw [if_neg h1,if_neg h1]
 by_cases h2:1024<od.length
 ·rw [if_pos h2,if_pos h2]
 rw [if_neg h2,if_neg h2]
 have hn:n≤32:=by omega
 rcases ord_rel hn od (RelM.start hn) with ⟨a,b⟩ | ⟨u,M,a,b,hr⟩
 ·rw [a,b]
 ·rw [a,b]
  have hc:=hr.closeK hn n (Nat.le_refl _)
  show rlatT n (closeMK n n M)=latT n (closeK n n u)
  unfold rlatT latT
  rw [loopy_rel hc hn,whole_rel hc hn]
end Go.Proofs.YtbijamcoibonkaaDoor
