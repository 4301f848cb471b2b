/-
 Bits of words of 32 bits, plainly.
-/
import Derived.Lib.QuoteBits
import Derived.Test.YtbijamcoibonkaaDoorCSPoT
import Derived.Test.YtbijamcoibonkaaDoorCB14
import Derived.BigQuiet
namespace Go.Proofs.YtbijamcoibonkaaDoor
set_option linter.unusedSimpArgs false
set_option linter.unusedVariables false
open Go.RowKit Go.Shelf
theorem wrap_u32 (n:Nat) (h:n<4294967296):IntKind.u32.wrap (n:Int)=(n:Int):=by
 have e:(n:Int) % 2 ^ 32=n:=Int.emod_eq_of_lt (by omega) (by omega)
 simp only [IntKind.wrap,IntKind.bits,IntKind.signed,e]
 simp
theorem ofInt_u32L (n:Nat) (h:n<4294967296):(BitVec.ofInt 32 (n:Int)).toNat=n:=by
 rw [BitVec.toNat_ofInt]
 omega
theorem or_lt {a b:Nat} (ha:a<4294967296) (hb:b<4294967296):a ||| b<4294967296:=Nat.or_lt_two_pow (n:=32) ha hb
theorem and_lt {a b:Nat} (ha:a<4294967296):a &&& b<4294967296:=Nat.lt_of_le_of_lt Nat.and_le_left ha
theorem or_u32 (a b:Nat) (ha:a<4294967296) (hb:b<4294967296):bits .or .u32 (a:Int) (b:Int)=((a ||| b:Nat):Int):=by
 show IntKind.u32.wrap ((BitVec.ofInt 32 (a:Int) ||| BitVec.ofInt 32 (b:Int)).toNat:Int)=_
 rw [BitVec.toNat_or,ofInt_u32L a (by omega),ofInt_u32L b (by omega)]
 exact wrap_u32 _ (or_lt ha hb)
theorem and_u32 (a b:Nat) (ha:a<4294967296) (hb:b<4294967296):bits .and .u32 (a:Int) (b:Int)=((a &&& b:Nat):Int):=by
 show IntKind.u32.wrap ((BitVec.ofInt 32 (a:Int) &&& BitVec.ofInt 32 (b:Int)).toNat:Int)=_
 rw [BitVec.toNat_and,ofInt_u32L a (by omega),ofInt_u32L b (by omega)]
 exact wrap_u32 _ (and_lt ha)
theorem andNot_u32 (a b:Nat) (ha:a<4294967296) (hb:b<4294967296):bits .andNot .u32 (a:Int) (b:Int)=((a &&& (4294967295 - b):Nat):Int):=by
 show IntKind.u32.wrap ((BitVec.ofInt 32 (a:Int) &&& ~~~BitVec.ofInt 32 (b:Int)).toNat:Int)=_
 rw [BitVec.toNat_and,BitVec.toNat_not,ofInt_u32L a (by omega),ofInt_u32L b (by omega)]
 exact wrap_u32 _ (and_lt ha)
theorem andNot_zero (a b:Nat) (ha:a<4294967296) (hb:b<4294967296):(bits .andNot .u32 (a:Int) (b:Int) == 0)=decide (a &&& b=a):=by
 rw [andNot_u32 a b ha hb,Bool.eq_iff_iff,beq_iff_eq,decide_eq_true_eq]
 have hc:∀ j,(4294967295 - b).testBit j=(decide (j<32) && !b.testBit j):=fun j=>by
  have:=Nat.testBit_two_pow_sub_succ (x:=b) (n:=32) hb j
  rw [show 2 ^ 32 - (b+1)=4294967295 - b by omega] at this
  exact this
 have ha32:∀ j,a.testBit j=true→j<32:=fun j hj=>by
  refine Classical.byContradiction fun q=>?_
  have:a<2 ^ j:=Nat.lt_of_lt_of_le ha (by rw [show (4294967296:Nat)=2 ^ 32 from rfl];exact Nat.pow_le_pow_right (by omega) (by omega))
  rw [Nat.testBit_lt_two_pow this] at hj
  cases hj
 rw [sub_bits]
 constructor
 ·intro h j hj
  have e:a &&& (4294967295 - b)=0:=by omega
  have:=congrArg (fun x=>x.testBit j) e
  simp only [Nat.testBit_and,hj,hc,ha32 j hj,decide_true,Bool.true_and,Nat.zero_testBit,Bool.not_eq_false'] at this
  exact this
 ·intro h
  have e:a &&& (4294967295 - b)=0:=by
   refine Nat.eq_of_testBit_eq fun j=>?_
   rw [Nat.testBit_and,hc,Nat.zero_testBit]
   by_cases hj:a.testBit j=true
   ·rw [h j hj];simp
   ·simp at hj;rw [hj];rfl
  rw [e];rfl
theorem low_bit:∀ (f x:Nat),x≤f→0<x→∃ i,x.testBit i=true∧(∀ j,j<i→x.testBit j=false)∧∀ j,(x - 1).testBit j=if j<i then true else if j=i then false else x.testBit j
 | 0,x,h,h0=>by omega
 | f+1,x,h,h0=>by
  by_cases hx:x % 2=1
  ·have e2:(x - 1) / 2=x / 2:=by omega
   have e3:(x - 1) % 2=0:=by omega
   refine ⟨0,by simp [hx],fun j hj=>by omega,fun j=>?_⟩
   cases j with
   | zero=>rw [Nat.testBit_zero,e3];rfl
   | succ j=>rw [Nat.testBit_succ,Nat.testBit_succ,if_neg (by omega),if_neg (by omega),e2]
  ·obtain ⟨i,h1,h2,h3⟩:=low_bit f (x / 2) (by omega) (by omega)
   have e2:(x - 1) / 2=x / 2 - 1:=by omega
   have e3:(x - 1) % 2=1:=by omega
   have e4:x % 2=0:=by omega
   refine ⟨i+1,by rw [Nat.testBit_succ];exact h1,fun j hj=>?_,fun j=>?_⟩
   ·cases j with
    | zero=>rw [Nat.testBit_zero,e4];rfl
    | succ j=>rw [Nat.testBit_succ];exact h2 j (by omega)
   ·cases j with
    | zero=>rw [Nat.testBit_zero,e3,if_pos (by omega)];rfl
    | succ j =>
     rw [Nat.testBit_succ,Nat.testBit_succ,e2,h3 j]
     by_cases q1:j<i
     ·rw [if_pos q1,if_pos (by omega)]
     ·rw [if_neg q1,if_neg (by omega:¬ j+1<i+1)]
      by_cases q2:j=i
      ·rw [if_pos q2,if_pos (by omega)]
      ·rw [if_neg q2,if_neg (by omega)]
noncomputable def lowI (x:Nat):Nat:=if h:0<x then (low_bit x x (Nat.le_refl _) h).choose else 0
theorem lowI_spec {x:Nat} (h:0<x):x.testBit (lowI x)=true∧(∀ j,j<lowI x→x.testBit j=false)∧∀ j,(x - 1).testBit j=if j<lowI x then true else if j=lowI x then false else x.testBit j:=by
 unfold lowI
 rw [dif_pos h]
 exact (low_bit x x (Nat.le_refl _) h).choose_spec
theorem bit_lt {a j:Nat} (ha:a<4294967296) (hj:a.testBit j=true):j<32:=by
 refine Classical.byContradiction fun q=>?_
 have:a<2 ^ j:=Nat.lt_of_lt_of_le ha (by rw [show (4294967296:Nat)=2 ^ 32 from rfl];exact Nat.pow_le_pow_right (by omega) (by omega))
 rw [Nat.testBit_lt_two_pow this] at hj
 cases hj
theorem low_clear {x:Nat} (h:0<x) (j:Nat):(x &&& (x - 1)).testBit j=(x.testBit j && !decide (j=lowI x)):=by
 obtain ⟨h1,h2,h3⟩:=lowI_spec h
 rw [Nat.testBit_and,h3]
 by_cases q1:j<lowI x
 ·rw [h2 j q1];rfl
 ·rw [if_neg q1]
  by_cases q2:j=lowI x
  ·simp [q2]
  ·rw [if_neg q2];simp [q2]
theorem low_only {x:Nat} (h:0<x) (h32:x<4294967296):x &&& (4294967296 - x)=2 ^ lowI x:=by
 obtain ⟨h1,h2,h3⟩:=lowI_spec h
 have hl:=bit_lt h32 h1
 refine Nat.eq_of_testBit_eq fun j=>?_
 have hc:=Nat.testBit_two_pow_sub_succ (x:=x - 1) (n:=32) (by omega) j
 rw [show 2 ^ 32 - (x - 1+1)=4294967296 - x by omega] at hc
 rw [Nat.testBit_and,hc,h3,Nat.testBit_two_pow]
 by_cases q1:j<lowI x
 ·have:¬ lowI x=j:=by omega
  simp [q1,this,h2 j q1]
 ·by_cases q2:j=lowI x
  ·subst q2;simp [hl,h1]
  ·have:¬ lowI x=j:=by omega
   simp [q1,q2,this]
   cases x.testBit j <;> simp
theorem clear_lt {x:Nat} (h:0<x):x &&& (x - 1)<x:=Nat.lt_of_le_of_lt Nat.and_le_right (by omega)
theorem shr_bit (x k:Nat) (h:x<4294967296):(bits .and .u32 ((x / 2 ^ k:Nat):Int) 1 == 1)=x.testBit k:=by
 have e:=and_u32 (x / 2 ^ k) 1 (Nat.lt_of_le_of_lt (Nat.div_le_self _ _) h) (by omega)
 rw [show ((1:Nat):Int)=1 from rfl] at e
 rw [e,Bool.eq_iff_iff,beq_iff_eq]
 have e2:x.testBit k=(x / 2 ^ k).testBit 0:=by rw [Nat.testBit_div_two_pow];simp
 rw [e2,Nat.and_one_is_mod,Nat.testBit_zero,decide_eq_true_eq]
 omega
theorem shr_bitI (x k:Nat) (h:x<4294967296):(bits .and .u32 ((x:Int) / (2:Int) ^ k) 1 == 1)=x.testBit k:=by
 have e:((x / 2 ^ k:Nat):Int)=(x:Int) / (2:Int) ^ k:=by rw [Int.natCast_ediv,Int.natCast_pow];rfl
 rw [← e];exact shr_bit x k h
def kPair:EK (Int × Int) where
 n:=2
 pos:=by omega
 E _ _ cs x:=cs=[.int .i64 x.1,.int .i64 x.2]
 len h:=by rw [h];rfl
 one h:=by subst h;intro u hu;simp at hu;rcases hu with rfl | rfl <;> rfl
 keep h _:=h
def kBind:EK (Bs × Int) where
 n:=2
 pos:=by omega
 E _ _ cs x:=cs=[.string ⟨x.1.toArray⟩,.int .i64 x.2]
 len h:=by rw [h];rfl
 one h:=by subst h;intro u hu;simp at hu;rcases hu with rfl | rfl <;> rfl
 keep h _:=h
def PoV (R:Nat→Prop) (w:World) (a b c d:Value) (p:Po):Prop:=SlG kStr R w a p.lv∧SlG kPair R w b p.od∧SlG kBind R w c p.ch∧SlG kBind R w d p.st
theorem PoV.keep {R R':Nat→Prop} {w w':World} {a b c d:Value} {p:Po} (h:PoV R w a b c d p) (hf:∀ k,R k→R' k∧w'.heap[k]?=w.heap[k]?):PoV R' w' a b c d p:=⟨h.1.keep hf,h.2.1.keep hf,h.2.2.1.keep hf,h.2.2.2.keep hf⟩
theorem PoV.below {w w':World} {a b c d:Value} {p:Po} (h:PoV (·<w.heap.size) w a b c d p) (hb:Below w.heap.size w w'):PoV (·<w'.heap.size) w' a b c d p :=
 h.keep fun k hk=>⟨Nat.lt_of_lt_of_le hk hb.size,hb.block k hk⟩
abbrev poL (a b c d:Value) (p:Po):List Value:=[a,b,c,d,.bool p.sens,.int .i64 p.steps,.int .i64 p.paths,.int .i64 p.nodes,.int .i64 p.conf]
def debL:List Nat:=[0,1,28,2,29,14,24,3,30,22,20,15,25,17,4,8,31,27,13,23,21,19,16,7,26,12,18,6,11,5,10,9]
def Bru (w:World):Prop:=∀ i,i<32→w.cell? ⟨1,i,none⟩=some (.int .u8 (debL.getD i 0:Nat))
theorem Bru.keep {w w':World} (h:Bru w) (hb:Below w.heap.size w w'):Bru w':=fun i hi=>(hb.cell (World.block_lt_of_cell? _ _ (h i hi))).trans (h i hi)
theorem deb_at:∀ l,l<32→(2 ^ l*125613361 % 4294967296 / 134217728)<32∧debL.getD (2 ^ l*125613361 % 4294967296 / 134217728) 0=l:=by decide
theorem wrap_u32n (n:Nat):IntKind.u32.wrap (n:Int)=((n % 4294967296:Nat):Int):=by
 simp only [IntKind.wrap,IntKind.bits,IntKind.signed]
 simp
theorem neg_u32 (x:Nat) (h0:0<x) (h:x<4294967296):IntKind.u32.wrap (-(x:Int))=((4294967296 - x:Nat):Int):=by
 simp only [IntKind.wrap,IntKind.bits,IntKind.signed]
 simp
 omega
theorem tz_any (x:Nat) (w:World) (h0:0<x) (h32:x<4294967296) (hT:Bru w) :
  Calls Tryd.prog 59 #[.int .u32 (x:Int)] w fun e w'=>e = .returned (.int .i64 (lowI x:Nat))∧w=w':=by
 have hl:=bit_lt h32 (lowI_spec h0).1
 obtain ⟨d1,d2⟩:=deb_at _ hl
 have hne:((x:Int) == 0)=false:=by rw [beq_eq_false_iff_ne];omega
 have e1:=neg_u32 x h0 h32
 have e2:bits .and .u32 (x:Int) ((4294967296 - x:Nat):Int)=((2 ^ lowI x:Nat):Int):=by rw [and_u32 x _ h32 (by omega),low_only h0 h32]
 obtain ⟨P,hP⟩:∃ P,2 ^ lowI x=P:=⟨_,rfl⟩
 rw [hP] at d1 d2 e2
 have e3:IntKind.u32.wrap ((P:Int)*125613361)=((P*125613361 % 4294967296:Nat):Int):=by rw [← wrap_u32n];rfl
 obtain ⟨q,hq⟩:∃ q,P*125613361 % 4294967296 / 134217728=q:=⟨_,rfl⟩
 rw [hq] at d1 d2
 obtain ⟨m,hm⟩:∃ m,P*125613361 % 4294967296=m:=⟨_,rfl⟩
 rw [hm] at hq e3
 have e4:((m:Int) / 134217728)=(q:Int):=by rw [← hq];rfl
 obtain ⟨X,hX⟩:∃ X,4294967296 - x=X:=⟨_,rfl⟩
 rw [hX] at e1 e2
 have hc:=hT q d1
 rw [d2] at hc
 have hq32:(q:Int)<32:=by omega
 have hl255:IntKind.i64.wrap (lowI x:Int)=(lowI x:Int):=IntWalk.i64_in _ (by omega)
 obtain ⟨L,hL⟩:∃ L,lowI x=L:=⟨_,rfl⟩
 rw [hL] at hc hl255
 clear hX hm hq hP hT d1 d2 h0 h32 hl
 rw [hL]
 clear hL
 go_enter Tryd.func59,Tryd.ntmps59
 go_wp2_with fail
 go_ret
 exact ⟨rfl,rfl⟩
structure SetsAt (b o:Nat) (s:List Nat) (w:World):Prop where
 lt:∀ i,s.getD i 0<4294967296
 at':∀ i,i<32→w.cell? ⟨b,o+i,none⟩=some (.int .u32 (s.getD i 0:Nat))
theorem pred_u32 (r:Nat) (h0:0<r) (h:r<4294967296):IntKind.u32.wrap ((r:Int) - 1)=((r - 1:Nat):Int):=by
 have e:(r:Int) - 1=((r - 1:Nat):Int):=by omega
 rw [e,wrap_u32n,Nat.mod_eq_of_lt (by omega)]
def RestI (s:List Nat) (set r:Nat):Prop:=r<4294967296∧(∀ j,r.testBit j=true→set.testBit j=true)∧∀ j,set.testBit j=true→r.testBit j=false→¬ set &&& s.getD j 0=set
theorem RestI.next {s:List Nat} {set r:Nat} (h:RestI s set r) (h0:0<r) (hn:¬ set &&& s.getD (lowI r) 0=set):RestI s set (r &&& (r - 1)):=by
 obtain ⟨h1,h2,h3⟩:=h
 refine ⟨and_lt h1,fun j hj=>?_,fun j hj hr=>?_⟩
 ·rw [low_clear h0] at hj
  simp only [Bool.and_eq_true] at hj
  exact h2 j hj.1
 ·rw [low_clear h0] at hr
  by_cases e:j=lowI r
  ·rw [e];exact hn
  ·simp [e] at hr
   exact h3 j hj hr
theorem RestI.none {s:List Nat} {set:Nat} (h:RestI s set 0):boundB s set=false:=by
 rw [Bool.eq_false_iff]
 intro e
 unfold boundB at e
 simp only [List.any_eq_true,List.mem_range,decide_eq_true_eq,Bool.and_eq_true] at e
 obtain ⟨i,_,h1,h2⟩:=e
 exact h.2.2 i h1 (by simp) h2
theorem RestI.some {s:List Nat} {set r:Nat} (h:RestI s set r) (h0:0<r) (hset:set<4294967296) (hn:set &&& s.getD (lowI r) 0=set):boundB s set=true:=by
 have hb:=h.2.1 _ (lowI_spec h0).1
 unfold boundB
 simp only [List.any_eq_true,List.mem_range,decide_eq_true_eq,Bool.and_eq_true]
 exact ⟨lowI r,bit_lt hset hb,hb,hn⟩
set_option maxHeartbeats 2000000 in
theorem bound_any (b o:Nat) (s:List Nat) (set:Nat) (w:World) (hset:set<4294967296) (hs:SetsAt b o s w) (hT:Bru w) :
  Calls Tryd.prog 26 #[.pointer (some ⟨b,o,none⟩),.int .u32 (set:Int)] w fun e w'=>(∃ z:Int,e = .returned (.int .i64 z)∧decide (z<0)=!boundB s set)∧w'=w:=by
 have HS:=hid hs
 have HT:=hid hT
 have HSET:=hid hset
 clear hs hT hset
 go_enter Tryd.func26,Tryd.ntmps26
 go_wp2_with fail
 go_loopw [5] (fun v W=>∃ r:Nat,v = .int .u32 (r:Int)∧RestI s set r∧W=w) (fun v _=>(intOf v).toNat)
 case atStart=>exact ⟨set,rfl,⟨HSET.out,fun _ h=>h,fun j h1 h2=>by rw [h1] at h2;cases h2⟩,rfl⟩
 case round =>
  obtain ⟨r,rfl,hr,hw⟩:=hrel
  subst hw
  have HR:=hid hr
  clear hr
  by_cases h0:0<r
  ·have hz:((r:Int) != 0)=true:=by rw [bne_iff_ne];omega
   have hl:=bit_lt HR.out.1 (lowI_spec h0).1
   obtain ⟨L,hL⟩:∃ L,lowI r=L:=⟨_,rfl⟩
   have hc:=HS.out.at' L (by omega)
   obtain ⟨S,hS⟩:∃ S,s.getD L 0=S:=⟨_,rfl⟩
   rw [hS] at hc
   have hL32:(L:Int)<32:=by omega
   have hp:=pred_u32 r h0 HR.out.1
   have ha:=and_u32 r (r - 1) HR.out.1 (by have:=HR.out.1;omega)
   obtain ⟨R1,hR1⟩:∃ R1,r - 1=R1:=⟨_,rfl⟩
   rw [hR1] at hp ha
   have hx:=andNot_zero set S HSET.out (by rw [← hS];exact HS.out.lt L)
   obtain ⟨N,hN⟩:∃ N,r &&& R1=N:=⟨_,rfl⟩
   rw [hN] at ha
   have HTZ:=hid (show Calls Tryd.prog 59 #[.int .u32 (r:Int)] wr fun e w'=>e = .returned (.int .i64 (L:Nat))∧w'=wr from by rw [← hL];exact (tz_any r _ h0 HR.out.1 HT.out).mono fun e w' h=>⟨h.1,h.2.symm⟩)
   have H0:=hid h0;have HL:=hid hL;have HSS:=hid hS;have HR1:=hid hR1;have HN:=hid hN
   clear hL hS hR1 hN
   by_cases hq:set &&& S=set
   ·rw [decide_eq_true hq] at hx
    have HQ:=hid hq
    clear hq
    go_wp2_with (go_at_call 59;(with_reducible refine HTZ.out.mono ?_);rintro e w1 ⟨rfl,rfl⟩)
    go_ret
    refine ⟨⟨_,rfl,?_⟩,rfl⟩
    rw [HR.out.some H0.out HSET.out (by rw [HL.out,HSS.out];exact HQ.out),decide_eq_false (by omega)]
    rfl
   ·rw [decide_eq_false hq] at hx
    have HQ:=hid hq
    clear hq
    go_wp2_with (go_at_call 59;(with_reducible refine HTZ.out.mono ?_);rintro e w1 ⟨rfl,rfl⟩)
    go_roundw
    case rel =>
     refine ⟨N,rfl,?_,by trivial⟩
     rw [← HN.out,← HR1.out]
     exact HR.out.next H0.out (by rw [HL.out,HSS.out];exact HQ.out)
    case measure =>
     have:=clear_lt H0.out
     rw [HR1.out,HN.out] at this
     simp [intOf];omega
  ·obtain rfl:r=0:=by omega
   have hz:(((0:Nat):Int) != 0)=false:=by decide
   go_wp2_with fail
   go_ret
   exact ⟨⟨_,rfl,by rw [HR.out.none];decide⟩,rfl⟩
end Go.Proofs.YtbijamcoibonkaaDoor
