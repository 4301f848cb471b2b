/-
 The law PolicyOrder, plainly; the reference's lattices are the program's (no program in sight).
-/
import Derived.Test.YtbijamcoibonkaaDoorBSPoS
import Derived.Lib.QuoteBits
import Derived.Test.YtbijamcoibonkaaDoorBSPrM
namespace Go.Proofs.YtbijamcoibonkaaDoor
set_option linter.unusedSimpArgs false
set_option linter.unusedVariables false
open Go.RowKit Go.Shelf
abbrev Mx:=Nat→Nat→Bool
def setM (M:Mx) (a b:Nat) (v:Bool):Mx:=fun i j=>if i=a∧j=b then v else M i j
def closeJ (k i m:Nat) (M:Mx):Mx:=(List.range m).foldl (fun M j=>setM M i j (M i j || M i k && M k j)) M
def closeMI (k n m:Nat) (M:Mx):Mx:=(List.range m).foldl (fun M i=>closeJ k i n M) M
def closeMK (n m:Nat) (M:Mx):Mx:=(List.range m).foldl (fun M k=>closeMI k n n M) M
structure RelM (n:Nat) (u:List Nat) (M:Mx):Prop where
 len:u.length=32
 bit:∀ i,i<n→∀ j,(u.getD i 0).testBit j=(decide (j<n) && M i j)
 self:∀ i,i<n→M i i=true
theorem getD_set (u:List Nat) (i k v:Nat) (hi:i<u.length):(u.set i v).getD k 0=if k=i then v else u.getD k 0:=by
 rw [List.getD_eq_getElem?_getD,List.getD_eq_getElem?_getD,List.getElem?_set]
 by_cases h:i=k
 ·subst h;simp [hi]
 ·rw [if_neg h,if_neg (fun e=>h e.symm)]
theorem RelM.ord {n:Nat} {u:List Nat} {M:Mx} (h:RelM n u M) (hn:n≤32) {p:Int × Int} (hp:pairB n p=true):RelM n (ordS u p) (setM M p.1.toNat p.2.toNat true):=by
 unfold pairB at hp
 simp only [Bool.and_eq_true,decide_eq_true_eq] at hp
 refine ⟨by unfold ordS;rw [List.length_set];exact h.len,fun i hi j=>?_,fun i hi=>?_⟩
 ·unfold ordS
  rw [getD_set _ _ _ _ (by rw [h.len];omega)]
  unfold setM
  by_cases e:i=p.1.toNat
  ·rw [if_pos e,Nat.testBit_or,Nat.testBit_two_pow,h.bit _ (by omega)]
   by_cases e2:j=p.2.toNat
   ·subst e2;have:p.2.toNat<n:=by omega
    simp [e,this]
   ·have e3:¬ p.2.toNat=j:=fun q=>e2 q.symm
    simp [e,e2,e3]
  ·rw [if_neg e,h.bit i hi]
   simp [e]
 ·unfold setM;split
  ·rfl
  ·exact h.self i hi
theorem closeJ_at (k i:Nat) (M:Mx) (hk:M k k=true):∀ m a b,closeJ k i m M a b=if a=i∧b<m then M a b || M a k && M k b else M a b:=by
 intro m
 induction m with
 | zero=>intro a b;simp [closeJ]
 | succ m ih =>
  intro a b
  have e:closeJ k i (m+1) M=setM (closeJ k i m M) i m (closeJ k i m M i m || closeJ k i m M i k && closeJ k i m M k m):=by
   simp [closeJ,List.range_succ]
  rw [e]
  unfold setM
  by_cases h:a=i∧b=m
  ·obtain ⟨rfl,rfl⟩:=h
   rw [if_pos ⟨rfl,rfl⟩,if_pos ⟨rfl,by omega⟩,ih,ih,ih]
   rw [if_neg (by omega)]
   by_cases hka:k=a
   ·subst hka
    simp
   ·have h1:(if a=a∧k<b then M a k || M a k && M k k else M a k)=M a k:=by
     split <;> simp [hk]
    rw [h1,if_neg (by rintro ⟨q,_⟩;exact hka q)]
  ·rw [if_neg h,ih]
   by_cases h2:a=i∧b<m
   ·rw [if_pos h2,if_pos ⟨h2.1,by omega⟩]
   ·rw [if_neg h2,if_neg (by rintro ⟨q1,q2⟩;exact h2 ⟨q1,by have:b ≠ m:=fun e=>h ⟨q1,e⟩;omega⟩)]
theorem RelM.close {n:Nat} {u:List Nat} {M:Mx} (h:RelM n u M) (hn:n≤32) {k i:Nat} (hk:k<n) (hi:i<n):RelM n (closeS k u i) (closeJ k i n M):=by
 have hu:=h.len
 refine ⟨by unfold closeS;split;rw [List.length_set];exact hu;exact hu,fun a ha j=>?_,fun a ha=>?_⟩
 ·rw [closeJ_at k i M (h.self k hk)]
  unfold closeS
  have hik:=h.bit i hi k
  simp only [hk,decide_true,Bool.true_and] at hik
  by_cases hb:(u.getD i 0).testBit k=true
  ·rw [if_pos hb,getD_set _ _ _ _ (by omega)]
   rw [hb] at hik
   by_cases e:a=i
   ·subst e
    rw [if_pos rfl,Nat.testBit_or,h.bit a ha,h.bit k hk]
    by_cases hj:j<n
    ·simp [hj,← hik]
    ·simp [hj]
   ·rw [if_neg e,if_neg (by rintro ⟨q,_⟩;exact e q),h.bit a ha]
  ·rw [if_neg hb,h.bit a ha]
   have hik':M i k=false:=by rw [← hik];simpa using hb
   by_cases e:a=i
   ·subst e
    by_cases hj:j<n
    ·simp [hj,hik']
    ·simp [hj]
   ·rw [if_neg (by rintro ⟨q,_⟩;exact e q)]
 ·rw [closeJ_at k i M (h.self k hk)]
  split
  ·simp [h.self a ha]
  ·exact h.self a ha
theorem RelM.closeI {n:Nat} {u:List Nat} {M:Mx} (h:RelM n u M) (hn:n≤32) {k:Nat} (hk:k<n):∀ m,m≤n→RelM n (closeI k m u) (closeMI k n m M)
 | 0,_=>h
 | m+1,hm=>by
  have:=(RelM.closeI h hn hk m (by omega)).close hn hk (i:=m) (by omega)
  simpa [Proofs.YtbijamcoibonkaaDoor.closeI,closeMI,List.range_succ] using this
theorem RelM.closeK {n:Nat} {u:List Nat} {M:Mx} (h:RelM n u M) (hn:n≤32):∀ m,m≤n→RelM n (closeK n m u) (closeMK n m M)
 | 0,_=>h
 | m+1,hm=>by
  have:=(RelM.closeK h hn m (by omega)).closeI hn (k:=m) (by omega) n (Nat.le_refl _)
  simpa [Proofs.YtbijamcoibonkaaDoor.closeK,closeMK,List.range_succ] using this
theorem sub_bits {a b:Nat}:a &&& b=a ↔ ∀ j,a.testBit j=true→b.testBit j=true:=by
 constructor
 ·intro h j hj
  have:=congrArg (fun x=>x.testBit j) h
  simp only [Nat.testBit_and,hj,Bool.true_and] at this
  exact this
 ·intro h
  refine Nat.eq_of_testBit_eq fun j=>?_
  rw [Nat.testBit_and]
  by_cases hj:a.testBit j=true
  ·rw [hj,h j hj];rfl
  ·simp at hj;rw [hj];rfl
theorem wrap_u32 (n:Nat) (h:n<4294967296):IntKind.u32.wrap (n:Int)=(n:Int):=by
 have e:(n:Int) % 2 ^ 32=n:=Int.emod_eq_of_lt (by omega) (by omega)
 simp only [IntKind.wrap,IntKind.bits,IntKind.signed,e]
 simp
theorem ofInt_u32L (n:Nat) (h:n<4294967296):(BitVec.ofInt 32 (n:Int)).toNat=n:=by
 rw [BitVec.toNat_ofInt]
 omega
theorem or_lt {a b:Nat} (ha:a<4294967296) (hb:b<4294967296):a ||| b<4294967296:=Nat.or_lt_two_pow (n:=32) ha hb
theorem and_lt {a b:Nat} (ha:a<4294967296):a &&& b<4294967296:=Nat.lt_of_le_of_lt Nat.and_le_left ha
theorem or_u32 (a b:Nat) (ha:a<4294967296) (hb:b<4294967296):bits .or .u32 (a:Int) (b:Int)=((a ||| b:Nat):Int):=by
 show IntKind.u32.wrap ((BitVec.ofInt 32 (a:Int) ||| BitVec.ofInt 32 (b:Int)).toNat:Int)=_
 rw [BitVec.toNat_or,ofInt_u32L a (by omega),ofInt_u32L b (by omega)]
 exact wrap_u32 _ (or_lt ha hb)
theorem and_u32 (a b:Nat) (ha:a<4294967296) (hb:b<4294967296):bits .and .u32 (a:Int) (b:Int)=((a &&& b:Nat):Int):=by
 show IntKind.u32.wrap ((BitVec.ofInt 32 (a:Int) &&& BitVec.ofInt 32 (b:Int)).toNat:Int)=_
 rw [BitVec.toNat_and,ofInt_u32L a (by omega),ofInt_u32L b (by omega)]
 exact wrap_u32 _ (and_lt ha)
theorem andNot_u32 (a b:Nat) (ha:a<4294967296) (hb:b<4294967296):bits .andNot .u32 (a:Int) (b:Int)=((a &&& (4294967295 - b):Nat):Int):=by
 show IntKind.u32.wrap ((BitVec.ofInt 32 (a:Int) &&& ~~~BitVec.ofInt 32 (b:Int)).toNat:Int)=_
 rw [BitVec.toNat_and,BitVec.toNat_not,ofInt_u32L a (by omega),ofInt_u32L b (by omega)]
 exact wrap_u32 _ (and_lt ha)
theorem andNot_zero (a b:Nat) (ha:a<4294967296) (hb:b<4294967296):(bits .andNot .u32 (a:Int) (b:Int) == 0)=decide (a &&& b=a):=by
 rw [andNot_u32 a b ha hb,Bool.eq_iff_iff,beq_iff_eq,decide_eq_true_eq]
 have hc:∀ j,(4294967295 - b).testBit j=(decide (j<32) && !b.testBit j):=fun j=>by
  have:=Nat.testBit_two_pow_sub_succ (x:=b) (n:=32) hb j
  rw [show 2 ^ 32 - (b+1)=4294967295 - b by omega] at this
  exact this
 have ha32:∀ j,a.testBit j=true→j<32:=fun j hj=>by
  refine Classical.byContradiction fun q=>?_
  have:a<2 ^ j:=Nat.lt_of_lt_of_le ha (by rw [show (4294967296:Nat)=2 ^ 32 from rfl];exact Nat.pow_le_pow_right (by omega) (by omega))
  rw [Nat.testBit_lt_two_pow this] at hj
  cases hj
 rw [sub_bits]
 constructor
 ·intro h j hj
  have e:a &&& (4294967295 - b)=0:=by omega
  have:=congrArg (fun x=>x.testBit j) e
  simp only [Nat.testBit_and,hj,hc,ha32 j hj,decide_true,Bool.true_and,Nat.zero_testBit,Bool.not_eq_false'] at this
  exact this
 ·intro h
  have e:a &&& (4294967295 - b)=0:=by
   refine Nat.eq_of_testBit_eq fun j=>?_
   rw [Nat.testBit_and,hc,Nat.zero_testBit]
   by_cases hj:a.testBit j=true
   ·rw [h j hj];simp
   ·simp at hj;rw [hj];rfl
  rw [e];rfl
theorem low_bit:∀ (f x:Nat),x≤f→0<x→∃ i,x.testBit i=true∧(∀ j,j<i→x.testBit j=false)∧∀ j,(x - 1).testBit j=if j<i then true else if j=i then false else x.testBit j
 | 0,x,h,h0=>by omega
 | f+1,x,h,h0=>by
  by_cases hx:x % 2=1
  ·have e2:(x - 1) / 2=x / 2:=by omega
   have e3:(x - 1) % 2=0:=by omega
   refine ⟨0,by simp [hx],fun j hj=>by omega,fun j=>?_⟩
   cases j with
   | zero=>rw [Nat.testBit_zero,e3];rfl
   | succ j=>rw [Nat.testBit_succ,Nat.testBit_succ,if_neg (by omega),if_neg (by omega),e2]
  ·obtain ⟨i,h1,h2,h3⟩:=low_bit f (x / 2) (by omega) (by omega)
   have e2:(x - 1) / 2=x / 2 - 1:=by omega
   have e3:(x - 1) % 2=1:=by omega
   have e4:x % 2=0:=by omega
   refine ⟨i+1,by rw [Nat.testBit_succ];exact h1,fun j hj=>?_,fun j=>?_⟩
   ·cases j with
    | zero=>rw [Nat.testBit_zero,e4];rfl
    | succ j=>rw [Nat.testBit_succ];exact h2 j (by omega)
   ·cases j with
    | zero=>rw [Nat.testBit_zero,e3,if_pos (by omega)];rfl
    | succ j =>
     rw [Nat.testBit_succ,Nat.testBit_succ,e2,h3 j]
     by_cases q1:j<i
     ·rw [if_pos q1,if_pos (by omega)]
     ·rw [if_neg q1,if_neg (by omega:¬ j+1<i+1)]
      by_cases q2:j=i
      ·rw [if_pos q2,if_pos (by omega)]
      ·rw [if_neg q2,if_neg (by omega)]
noncomputable def lowI (x:Nat):Nat:=if h:0<x then (low_bit x x (Nat.le_refl _) h).choose else 0
theorem lowI_spec {x:Nat} (h:0<x):x.testBit (lowI x)=true∧(∀ j,j<lowI x→x.testBit j=false)∧∀ j,(x - 1).testBit j=if j<lowI x then true else if j=lowI x then false else x.testBit j:=by
 unfold lowI
 rw [dif_pos h]
 exact (low_bit x x (Nat.le_refl _) h).choose_spec
theorem bit_lt {a j:Nat} (ha:a<4294967296) (hj:a.testBit j=true):j<32:=by
 refine Classical.byContradiction fun q=>?_
 have:a<2 ^ j:=Nat.lt_of_lt_of_le ha (by rw [show (4294967296:Nat)=2 ^ 32 from rfl];exact Nat.pow_le_pow_right (by omega) (by omega))
 rw [Nat.testBit_lt_two_pow this] at hj
 cases hj
theorem low_clear {x:Nat} (h:0<x) (j:Nat):(x &&& (x - 1)).testBit j=(x.testBit j && !decide (j=lowI x)):=by
 obtain ⟨h1,h2,h3⟩:=lowI_spec h
 rw [Nat.testBit_and,h3]
 by_cases q1:j<lowI x
 ·rw [h2 j q1];rfl
 ·rw [if_neg q1]
  by_cases q2:j=lowI x
  ·simp [q2]
  ·rw [if_neg q2];simp [q2]
theorem low_only {x:Nat} (h:0<x) (h32:x<4294967296):x &&& (4294967296 - x)=2 ^ lowI x:=by
 obtain ⟨h1,h2,h3⟩:=lowI_spec h
 have hl:=bit_lt h32 h1
 refine Nat.eq_of_testBit_eq fun j=>?_
 have hc:=Nat.testBit_two_pow_sub_succ (x:=x - 1) (n:=32) (by omega) j
 rw [show 2 ^ 32 - (x - 1+1)=4294967296 - x by omega] at hc
 rw [Nat.testBit_and,hc,h3,Nat.testBit_two_pow]
 by_cases q1:j<lowI x
 ·have:¬ lowI x=j:=by omega
  simp [q1,this,h2 j q1]
 ·by_cases q2:j=lowI x
  ·subst q2;simp [hl,h1]
  ·have:¬ lowI x=j:=by omega
   simp [q1,q2,this]
   cases x.testBit j <;> simp
theorem clear_lt {x:Nat} (h:0<x):x &&& (x - 1)<x:=Nat.lt_of_le_of_lt Nat.and_le_right (by omega)
theorem shr_bit (x k:Nat) (h:x<4294967296):(bits .and .u32 ((x / 2 ^ k:Nat):Int) 1 == 1)=x.testBit k:=by
 have e:=and_u32 (x / 2 ^ k) 1 (Nat.lt_of_le_of_lt (Nat.div_le_self _ _) h) (by omega)
 rw [show ((1:Nat):Int)=1 from rfl] at e
 rw [e,Bool.eq_iff_iff,beq_iff_eq]
 have e2:x.testBit k=(x / 2 ^ k).testBit 0:=by rw [Nat.testBit_div_two_pow];simp
 rw [e2,Nat.and_one_is_mod,Nat.testBit_zero,decide_eq_true_eq]
 omega
theorem shr_bitI (x k:Nat) (h:x<4294967296):(bits .and .u32 ((x:Int) / (2:Int) ^ k) 1 == 1)=x.testBit k:=by
 have e:((x / 2 ^ k:Nat):Int)=(x:Int) / (2:Int) ^ k:=by rw [Int.natCast_ediv,Int.natCast_pow];rfl
 rw [← e];exact shr_bit x k h
def kPair:EK (Int × Int) where
 n:=2
 pos:=by omega
 E _ _ cs x:=cs=[.int .i64 x.1,.int .i64 x.2]
 len h:=by rw [h];rfl
 one h:=by subst h;intro u hu;simp at hu;rcases hu with rfl | rfl <;> rfl
 keep h _:=h
def kBind:EK (Bs × Int) where
 n:=2
 pos:=by omega
 E _ _ cs x:=cs=[.string ⟨x.1.toArray⟩,.int .i64 x.2]
 len h:=by rw [h];rfl
 one h:=by subst h;intro u hu;simp at hu;rcases hu with rfl | rfl <;> rfl
 keep h _:=h
def PoV (R:Nat→Prop) (w:World) (a b c d:Value) (p:Po):Prop:=SlG kStr R w a p.lv∧SlG kPair R w b p.od∧SlG kBind R w c p.ch∧SlG kBind R w d p.st
theorem PoV.keep {R R':Nat→Prop} {w w':World} {a b c d:Value} {p:Po} (h:PoV R w a b c d p) (hf:∀ k,R k→R' k∧w'.heap[k]?=w.heap[k]?):PoV R' w' a b c d p:=⟨h.1.keep hf,h.2.1.keep hf,h.2.2.1.keep hf,h.2.2.2.keep hf⟩
theorem PoV.below {w w':World} {a b c d:Value} {p:Po} (h:PoV (·<w.heap.size) w a b c d p) (hb:Below w.heap.size w w'):PoV (·<w'.heap.size) w' a b c d p :=
 h.keep fun k hk=>⟨Nat.lt_of_lt_of_le hk hb.size,hb.block k hk⟩
abbrev poL (a b c d:Value) (p:Po):List Value:=[a,b,c,d,.bool p.sens,.int .i64 p.steps,.int .i64 p.paths,.int .i64 p.nodes,.int .i64 p.conf]
end Go.Proofs.YtbijamcoibonkaaDoor
