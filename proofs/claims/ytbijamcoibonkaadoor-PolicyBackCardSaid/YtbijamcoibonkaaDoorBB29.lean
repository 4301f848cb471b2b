/-
 Lattices of levels: the walks of the search for a bound.
-/
import Derived.Test.YtbijamcoibonkaaDoorBB28
import Derived.BigQuiet
import Derived.Test.YtbijamcoibonkaaDoorBSReg
import Derived.Test.YtbijamcoibonkaaDoorBB18
namespace Go.Proofs.YtbijamcoibonkaaDoor
set_option linter.unusedSimpArgs false
set_option linter.unusedVariables false
open Go.RowKit Go.Shelf
def debL:List Nat:=[0,1,28,2,29,14,24,3,30,22,20,15,25,17,4,8,31,27,13,23,21,19,16,7,26,12,18,6,11,5,10,9]
def Bru (w:World):Prop:=∀ i,i<32→w.cell? ⟨1,i,none⟩=some (.int .u8 (debL.getD i 0:Nat))
theorem Bru.keep {w w':World} (h:Bru w) (hb:Below w.heap.size w w'):Bru w':=fun i hi=>(hb.cell (World.block_lt_of_cell? _ _ (h i hi))).trans (h i hi)
theorem deb_at:∀ l,l<32→(2 ^ l*125613361 % 4294967296 / 134217728)<32∧debL.getD (2 ^ l*125613361 % 4294967296 / 134217728) 0=l:=by decide
theorem wrap_u32n (n:Nat):IntKind.u32.wrap (n:Int)=((n % 4294967296:Nat):Int):=by
 simp only [IntKind.wrap,IntKind.bits,IntKind.signed]
 simp
theorem neg_u32 (x:Nat) (h0:0<x) (h:x<4294967296):IntKind.u32.wrap (-(x:Int))=((4294967296 - x:Nat):Int):=by
 simp only [IntKind.wrap,IntKind.bits,IntKind.signed]
 simp
 omega
theorem tz_any (x:Nat) (w:World) (h0:0<x) (h32:x<4294967296) (hT:Bru w) :
  Calls Tryd.prog 59 #[.int .u32 (x:Int)] w fun e w'=>e = .returned (.int .i64 (lowI x:Nat))∧w=w':=by
 have hl:=bit_lt h32 (lowI_spec h0).1
 obtain ⟨d1,d2⟩:=deb_at _ hl
 have hne:((x:Int) == 0)=false:=by rw [beq_eq_false_iff_ne];omega
 have e1:=neg_u32 x h0 h32
 have e2:bits .and .u32 (x:Int) ((4294967296 - x:Nat):Int)=((2 ^ lowI x:Nat):Int):=by rw [and_u32 x _ h32 (by omega),low_only h0 h32]
 obtain ⟨P,hP⟩:∃ P,2 ^ lowI x=P:=⟨_,rfl⟩
 rw [hP] at d1 d2 e2
 have e3:IntKind.u32.wrap ((P:Int)*125613361)=((P*125613361 % 4294967296:Nat):Int):=by rw [← wrap_u32n];rfl
 obtain ⟨q,hq⟩:∃ q,P*125613361 % 4294967296 / 134217728=q:=⟨_,rfl⟩
 rw [hq] at d1 d2
 obtain ⟨m,hm⟩:∃ m,P*125613361 % 4294967296=m:=⟨_,rfl⟩
 rw [hm] at hq e3
 have e4:((m:Int) / 134217728)=(q:Int):=by rw [← hq];rfl
 obtain ⟨X,hX⟩:∃ X,4294967296 - x=X:=⟨_,rfl⟩
 rw [hX] at e1 e2
 have hc:=hT q d1
 rw [d2] at hc
 have hq32:(q:Int)<32:=by omega
 have hl255:IntKind.i64.wrap (lowI x:Int)=(lowI x:Int):=IntWalk.i64_in _ (by omega)
 obtain ⟨L,hL⟩:∃ L,lowI x=L:=⟨_,rfl⟩
 rw [hL] at hc hl255
 clear hX hm hq hP hT d1 d2 h0 h32 hl
 rw [hL]
 clear hL
 go_enter Tryd.func59,Tryd.ntmps59
 go_wp2_with fail
 go_ret
 exact ⟨rfl,rfl⟩
structure SetsAt (b o:Nat) (s:List Nat) (w:World):Prop where
 lt:∀ i,s.getD i 0<4294967296
 at':∀ i,i<32→w.cell? ⟨b,o+i,none⟩=some (.int .u32 (s.getD i 0:Nat))
theorem pred_u32 (r:Nat) (h0:0<r) (h:r<4294967296):IntKind.u32.wrap ((r:Int) - 1)=((r - 1:Nat):Int):=by
 have e:(r:Int) - 1=((r - 1:Nat):Int):=by omega
 rw [e,wrap_u32n,Nat.mod_eq_of_lt (by omega)]
def RestI (s:List Nat) (set r:Nat):Prop:=r<4294967296∧(∀ j,r.testBit j=true→set.testBit j=true)∧∀ j,set.testBit j=true→r.testBit j=false→¬ set &&& s.getD j 0=set
theorem RestI.next {s:List Nat} {set r:Nat} (h:RestI s set r) (h0:0<r) (hn:¬ set &&& s.getD (lowI r) 0=set):RestI s set (r &&& (r - 1)):=by
 obtain ⟨h1,h2,h3⟩:=h
 refine ⟨and_lt h1,fun j hj=>?_,fun j hj hr=>?_⟩
 ·rw [low_clear h0] at hj
  simp only [Bool.and_eq_true] at hj
  exact h2 j hj.1
 ·rw [low_clear h0] at hr
  by_cases e:j=lowI r
  ·rw [e];exact hn
  ·simp [e] at hr
   exact h3 j hj hr
theorem RestI.none {s:List Nat} {set:Nat} (h:RestI s set 0):boundB s set=false:=by
 rw [Bool.eq_false_iff]
 intro e
 unfold boundB at e
 simp only [List.any_eq_true,List.mem_range,decide_eq_true_eq,Bool.and_eq_true] at e
 obtain ⟨i,_,h1,h2⟩:=e
 exact h.2.2 i h1 (by simp) h2
theorem RestI.some {s:List Nat} {set r:Nat} (h:RestI s set r) (h0:0<r) (hset:set<4294967296) (hn:set &&& s.getD (lowI r) 0=set):boundB s set=true:=by
 have hb:=h.2.1 _ (lowI_spec h0).1
 unfold boundB
 simp only [List.any_eq_true,List.mem_range,decide_eq_true_eq,Bool.and_eq_true]
 exact ⟨lowI r,bit_lt hset hb,hb,hn⟩
set_option maxHeartbeats 2000000 in
theorem bound_any (b o:Nat) (s:List Nat) (set:Nat) (w:World) (hset:set<4294967296) (hs:SetsAt b o s w) (hT:Bru w) :
  Calls Tryd.prog 26 #[.pointer (some ⟨b,o,none⟩),.int .u32 (set:Int)] w fun e w'=>(∃ z:Int,e = .returned (.int .i64 z)∧decide (z<0)=!boundB s set)∧w'=w:=by
 have HS:=hid hs
 have HT:=hid hT
 have HSET:=hid hset
 clear hs hT hset
 go_enter Tryd.func26,Tryd.ntmps26
 go_wp2_with fail
 go_loopw [5] (fun v W=>∃ r:Nat,v = .int .u32 (r:Int)∧RestI s set r∧W=w) (fun v _=>(intOf v).toNat)
 case atStart=>exact ⟨set,rfl,⟨HSET.out,fun _ h=>h,fun j h1 h2=>by rw [h1] at h2;cases h2⟩,rfl⟩
 case round =>
  obtain ⟨r,rfl,hr,hw⟩:=hrel
  subst hw
  have HR:=hid hr
  clear hr
  by_cases h0:0<r
  ·have hz:((r:Int) != 0)=true:=by rw [bne_iff_ne];omega
   have hl:=bit_lt HR.out.1 (lowI_spec h0).1
   obtain ⟨L,hL⟩:∃ L,lowI r=L:=⟨_,rfl⟩
   have hc:=HS.out.at' L (by omega)
   obtain ⟨S,hS⟩:∃ S,s.getD L 0=S:=⟨_,rfl⟩
   rw [hS] at hc
   have hL32:(L:Int)<32:=by omega
   have hp:=pred_u32 r h0 HR.out.1
   have ha:=and_u32 r (r - 1) HR.out.1 (by have:=HR.out.1;omega)
   obtain ⟨R1,hR1⟩:∃ R1,r - 1=R1:=⟨_,rfl⟩
   rw [hR1] at hp ha
   have hx:=andNot_zero set S HSET.out (by rw [← hS];exact HS.out.lt L)
   obtain ⟨N,hN⟩:∃ N,r &&& R1=N:=⟨_,rfl⟩
   rw [hN] at ha
   have HTZ:=hid (show Calls Tryd.prog 59 #[.int .u32 (r:Int)] wr fun e w'=>e = .returned (.int .i64 (L:Nat))∧w'=wr from by rw [← hL];exact (tz_any r _ h0 HR.out.1 HT.out).mono fun e w' h=>⟨h.1,h.2.symm⟩)
   have H0:=hid h0;have HL:=hid hL;have HSS:=hid hS;have HR1:=hid hR1;have HN:=hid hN
   clear hL hS hR1 hN
   by_cases hq:set &&& S=set
   ·rw [decide_eq_true hq] at hx
    have HQ:=hid hq
    clear hq
    go_wp2_with (go_at_call 59;(with_reducible refine HTZ.out.mono ?_);rintro e w1 ⟨rfl,rfl⟩)
    go_ret
    refine ⟨⟨_,rfl,?_⟩,rfl⟩
    rw [HR.out.some H0.out HSET.out (by rw [HL.out,HSS.out];exact HQ.out),decide_eq_false (by omega)]
    rfl
   ·rw [decide_eq_false hq] at hx
    have HQ:=hid hq
    clear hq
    go_wp2_with (go_at_call 59;(with_reducible refine HTZ.out.mono ?_);rintro e w1 ⟨rfl,rfl⟩)
    go_roundw
    case rel =>
     refine ⟨N,rfl,?_,by trivial⟩
     rw [← HN.out,← HR1.out]
     exact HR.out.next H0.out (by rw [HL.out,HSS.out];exact HQ.out)
    case measure =>
     have:=clear_lt H0.out
     rw [HR1.out,HN.out] at this
     simp [intOf];omega
  ·obtain rfl:r=0:=by omega
   have hz:(((0:Nat):Int) != 0)=false:=by decide
   go_wp2_with fail
   go_ret
   exact ⟨⟨_,rfl,by rw [HR.out.none];decide⟩,rfl⟩
end Go.Proofs.YtbijamcoibonkaaDoor
namespace Go.Proofs.YtbijamcoibonkaaDoor
set_option linter.unusedSimpArgs false
set_option linter.unusedVariables false
open Go.RowKit Go.Shelf
attribute [local go_sem] Oper.semAt_some
def uV (x:Nat):Value := .int .u32 (x:Int)
def lcells (n:Nat) (u d:List Nat):List Value := .int .i64 (n:Int) :: (u.map uV++d.map uV)
structure LatB (b n:Nat) (u d:List Nat) (w:World):Prop where
 box:BxL 57 b (lcells n u d) w
 lu:u.length=32
 ld:d.length=32
 ltu:∀ i,u.getD i 0<4294967296
 ltd:∀ i,d.getD i 0<4294967296
theorem getD_lt32 {u:List Nat} {i:Nat} (h:i<u.length):u.getD i 0=u[i]:=by rw [List.getD_eq_getElem?_getD,List.getElem?_eq_getElem h];rfl
theorem LatB.setsU {b n:Nat} {u d:List Nat} {w:World} (h:LatB b n u d w):SetsAt b 1 u w:=⟨h.ltu,fun i hi=>by
 have:=h.box.at (i+1) (v:=uV (u.getD i 0)) (by
  show (u.map uV++d.map uV)[i]?=_
  rw [List.getElem?_append_left (by rw [List.length_map,h.lu];exact hi),List.getElem?_map,List.getElem?_eq_getElem (by rw [h.lu];exact hi),getD_lt32 (by rw [h.lu];exact hi)];rfl)
 rw [Nat.add_comm];exact this⟩
theorem LatB.setsD {b n:Nat} {u d:List Nat} {w:World} (h:LatB b n u d w):SetsAt b 33 d w:=⟨h.ltd,fun i hi=>by
 have:=h.box.at (i+33) (v:=uV (d.getD i 0)) (by
  show (u.map uV++d.map uV)[i+32]?=_
  rw [List.getElem?_append_right (by rw [List.length_map,h.lu];omega),List.length_map,h.lu,Nat.add_sub_cancel,List.getElem?_map,List.getElem?_eq_getElem (by rw [h.ld];exact hi),getD_lt32 (by rw [h.ld];exact hi)];rfl)
 rw [Nat.add_comm];exact this⟩
theorem set_lt {u:List Nat} {i v:Nat} (h:∀ i,u.getD i 0<4294967296) (hv:v<4294967296):∀ k,(u.set i v).getD k 0<4294967296:=fun k=>by
 by_cases hi:i<u.length
 ·rw [getD_set _ _ _ _ hi];split
  ·exact hv
  ·exact h k
 ·rw [List.set_eq_of_length_le (by omega)];exact h k
theorem LatB.setU {b n:Nat} {u d:List Nat} {w:World} (h:LatB b n u d w) {i:Nat} (hi:i<32) {v:Nat} (hv:v<4294967296):LatB b n (u.set i v) d (w.setCell ⟨b,1+i,none⟩ (.int .u32 (v:Int))):=by
 refine ⟨?_,by rw [List.length_set];exact h.lu,h.ld,set_lt h.ltu hv,h.ltd⟩
 have e:lcells n (u.set i v) d=(lcells n u d).set (1+i) (uV v):=by
  unfold lcells
  rw [Nat.add_comm 1 i,List.set_cons_succ,List.set_append_left _ _ (by rw [List.length_map,h.lu];exact hi),List.map_set]
 rw [e]
 exact h.box.set (1+i) (uV v)
theorem LatB.setD {b n:Nat} {u d:List Nat} {w:World} (h:LatB b n u d w) {i:Nat} (hi:i<32) {v:Nat} (hv:v<4294967296):LatB b n u (d.set i v) (w.setCell ⟨b,33+i,none⟩ (.int .u32 (v:Int))):=by
 refine ⟨?_,h.lu,by rw [List.length_set];exact h.ld,h.ltu,set_lt h.ltd hv⟩
 have e:lcells n u (d.set i v)=(lcells n u d).set (33+i) (uV v):=by
  unfold lcells
  rw [show 33+i=(32+i)+1 by omega,List.set_cons_succ,List.set_append_right _ _ (by rw [List.length_map,h.lu];omega),List.length_map,h.lu,Nat.add_sub_cancel_left,List.map_set]
 rw [e]
 exact h.box.set (33+i) (uV v)
theorem LatB.fr {b n:Nat} {u d:List Nat} {w:World} (h:LatB b n u d w) (i:Nat):w.frozen? ⟨b,i,none⟩=false:=h.box.fr i
theorem LatB.keep {b n:Nat} {u d:List Nat} {w w':World} (h:LatB b n u d w) (e:w'.heap[b]?=w.heap[b]?):LatB b n u d w':=⟨h.box.keep e,h.lu,h.ld,h.ltu,h.ltd⟩
theorem whole_true {s:List Nat} {n:Nat} (h:∀ a,a<n→∀ c,c<n→boundB s (s.getD a 0 &&& s.getD c 0)=true):wholeB s n=true:=by
 unfold wholeB
 simp only [List.all_eq_true,List.mem_range]
 exact h
theorem whole_false {s:List Nat} {n a c:Nat} (ha:a<n) (hc:c<n) (h:boundB s (s.getD a 0 &&& s.getD c 0)=false):wholeB s n=false:=by
 rw [Bool.eq_false_iff]
 intro e
 unfold wholeB at e
 simp only [List.all_eq_true,List.mem_range] at e
 rw [e a ha c hc] at h
 cases h
set_option maxRecDepth 100000 in
set_option maxHeartbeats 4000000 in
theorem whole_any (b o bn n:Nat) (s:List Nat) (w:World) (hn:n≤32) (hc:w.cell? ⟨bn,0,none⟩=some (.int .i64 (n:Int))) (hs:SetsAt b o s w) (hT:Bru w) :
  Calls Tryd.prog 25 #[.pointer (some ⟨b,o,none⟩),.pointer (some ⟨bn,0,none⟩)] w fun e w'=>e = .returned (.bool (wholeB s n))∧(∃ m,w'=w.drewN m):=by
 have HS:=hid hs
 have HT:=hid hT
 have HN:=hid hn
 have HC:=hid hc
 clear hs hT hn
 go_enter Tryd.func25,Tryd.ntmps25
 go_wp2_with fail
 go_loopw [7] (fun v W=>∃ i:Nat,i≤n∧v = .int .i64 (i:Int)∧(∀ a,a<i→∀ c,c<n→boundB s (s.getD a 0 &&& s.getD c 0)=true)∧∃ m,W=w.drewN m) (fun v _=>n - (intOf v).toNat)
 case atStart=>exact ⟨0,Nat.zero_le _,rfl,fun a h=>by omega,0,rfl⟩
 case round =>
  obtain ⟨i,hi,rfl,hall,m,hw⟩:=hrel
  have HALL:=hid hall
  have HW:=hid hw
  have hci:wr.cell? ⟨bn,0,none⟩=some (.int .i64 (n:Int)):=by rw [hw];exact HC.out
  clear hall hw hc
  by_cases hlt:i<n
  ·have t1:decide ((i:Int)<(n:Int))=true:=decide_eq_true (by omega)
   go_wp2_with fail
   go_loopw [11] (fun v W=>∃ k:Nat,k≤n∧v = .int .i64 (k:Int)∧(∀ c,c<k→boundB s (s.getD i 0 &&& s.getD c 0)=true)∧∃ m,W=w.drewN m) (fun v _=>n - (intOf v).toNat)
   case atStart=>exact ⟨0,Nat.zero_le _,rfl,fun a h=>by omega,m,HW.out⟩
   case round =>
    obtain ⟨k,hk,rfl,hin,m1,hw1⟩:=hrel
    have HIN:=hid hin
    have HW1:=hid hw1
    clear hin hw1
    by_cases hlk:k<n
    ·have t2:decide ((k:Int)<(n:Int))=true:=decide_eq_true (by omega)
     go_upto_region 7 with fail
     have HSD:=hid (show SetsAt b o s wr.drew from by rw [HW1.out];exact ⟨HS.out.lt,fun i hi=>HS.out.at' i hi⟩)
     have HTD:=hid (show Bru wr.drew from by rw [HW1.out];exact fun i hi=>HT.out i hi)
     have hq1:wr.drew=w.drewN (m1+1):=by rw [HW1.out];rfl
     have ci:=HSD.out.at' i (by have:=HN.out;omega)
     have ck:=HSD.out.at' k (by have:=HN.out;omega)
     obtain ⟨A,hA⟩:∃ A,s.getD i 0=A:=⟨_,rfl⟩
     obtain ⟨C,hC⟩:∃ A,s.getD k 0=A:=⟨_,rfl⟩
     have hAC:=and_u32 A C (by rw [← hA];exact HS.out.lt i) (by rw [← hC];exact HS.out.lt k)
     have HALT:=hid (show A &&& C<4294967296 from and_lt (by rw [← hA];exact HS.out.lt i))
     rw [hA] at ci
     rw [hC] at ck
     have HA:=hid hA;have HCC:=hid hC
     have hi32:(i:Int)<32:=by have:=HN.out;omega
     have hk32:(k:Int)<32:=by have:=HN.out;omega
     obtain ⟨N,hNN⟩:∃ N,A &&& C=N:=⟨_,rfl⟩
     rw [hNN] at hAC
     have HNN:=hid hNN
     have HBD:=hid (bound_any b o s N wr.drew (by rw [← hNN];exact HALT.out) HSD.out HTD.out)
     have HQ1:=hid hq1
     have hS:(fun W:World=>W.cell? ⟨b,o+i,none⟩=some (.int .u32 (A:Int))∧W.cell? ⟨b,o+k,none⟩=some (.int .u32 (C:Int))) wr.drew:=⟨ci,ck⟩
     clear hq1 hA hC hNN ci ck
     have hFa:=fT
     refine rgN (fun W:World=>W.cell? ⟨b,o+i,none⟩=some (.int .u32 (A:Int))∧W.cell? ⟨b,o+k,none⟩=some (.int .u32 (C:Int))) 14 (by kernel_rfl) ?_
     simp only [List.size_toArray,List.length_cons,List.length_nil,Nat.reduceAdd]
     iterate 12 (refine wpHJ_nx (v:=?_) 14 rfl rfl (by kernel_rfl) nE hS ?_ ?_;rotate_left;(focus refine Or.inl ⟨by rfl,?_⟩;rintro w' ⟨s0,s1⟩;go_simp;try rfl);simp only [Act.put,actP,actQ])
     refine wpHJ_only 12 (by kernel_rfl) rfl (fun K hK=>?_)
     go_simp
     (with_reducible refine (callsIn_wide.2 HBD.out).mono ?_)
     rintro e w1 ⟨⟨z,rfl,hz⟩,rfl⟩
     refine hK _ _ (.inr (.inr hS)) ?_
     clear hK K
     (refine wpHJ_nx (v:=?_) 14 rfl rfl (by kernel_rfl) nE hS ?_ ?_;rotate_left;(focus refine Or.inl ⟨by rfl,?_⟩;rintro w' ⟨s0,s1⟩;go_simp;try rfl);simp only [Act.put,actP,actQ])
     refine wpHJ_done (by kernel_rfl) ?_ _
     simp only [onlyN,Exit.then]
     clear hFa
     obtain ⟨bb,hbb⟩:∃ bb,boundB s N=bb:=⟨_,rfl⟩
     rw [hbb]
     have HBB:=hid hbb
     clear hbb
     cases bb with
     | false =>
      simp only [Bool.not_false]
      go_wp2_with fail
      go_ret
      refine ⟨?_,_,HQ1.out⟩
      rw [whole_false hlt hlk (by rw [HA.out,HCC.out,HNN.out];exact HBB.out)]
      rfl
     | true =>
      simp only [Bool.not_true]
      go_wp2_with fail
      go_roundw
      case rel =>
       refine ⟨k+1,by omega,by go_num,fun c hc=>?_,_,HQ1.out⟩
       by_cases e:c=k
       ·subst e;rw [HA.out,HCC.out,HNN.out];exact HBB.out
       ·exact HIN.out c (by omega)
      case measure=>simp [intOf];omega
    ·obtain rfl:k=n:=by omega
     have t2:decide ((k:Int)<(k:Int))=false:=decide_eq_false (by omega)
     have hi32:(i:Int)<32:=by have:=HN.out;omega
     go_wp2_with fail
     go_roundw
     case rel =>
      refine ⟨i+1,by omega,by go_num,fun a ha c hc=>?_,_,HW1.out⟩
      by_cases e:a=i
      ·subst e;exact HIN.out c hc
      ·exact HALL.out a (by omega) c hc
     case measure=>simp [intOf];omega
  ·obtain rfl:i=n:=by omega
   have t1:decide ((i:Int)<(i:Int))=false:=decide_eq_false (by omega)
   go_wp2_with fail
   go_ret
   exact ⟨by rw [whole_true HALL.out];rfl,_,HW.out⟩
end Go.Proofs.YtbijamcoibonkaaDoor
