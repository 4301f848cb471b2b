/-
 Lattices of levels: New.
-/
import Derived.Test.YtbijamcoibonkaaDoorCB24
import Derived.Test.YtbijamcoibonkaaDoorCB5
import Derived.Test.YtbijamcoibonkaaDoorCB15
import Derived.BigQuiet
namespace Go.Proofs.YtbijamcoibonkaaDoor
set_option linter.unusedSimpArgs false
set_option linter.unusedVariables false
open Go.RowKit Go.Shelf
attribute [local go_sem] Oper.semAt_some
def uV (x:Nat):Value := .int .u32 (x:Int)
def lcells (n:Nat) (u d:List Nat):List Value := .int .i64 (n:Int) :: (u.map uV++d.map uV)
structure LatB (b n:Nat) (u d:List Nat) (w:World):Prop where
 box:BxL 57 b (lcells n u d) w
 lu:u.length=32
 ld:d.length=32
 ltu:∀ i,u.getD i 0<4294967296
 ltd:∀ i,d.getD i 0<4294967296
theorem getD_lt32 {u:List Nat} {i:Nat} (h:i<u.length):u.getD i 0=u[i]:=by rw [List.getD_eq_getElem?_getD,List.getElem?_eq_getElem h];rfl
theorem LatB.setsU {b n:Nat} {u d:List Nat} {w:World} (h:LatB b n u d w):SetsAt b 1 u w:=⟨h.ltu,fun i hi=>by
 have:=h.box.at (i+1) (v:=uV (u.getD i 0)) (by
  show (u.map uV++d.map uV)[i]?=_
  rw [List.getElem?_append_left (by rw [List.length_map,h.lu];exact hi),List.getElem?_map,List.getElem?_eq_getElem (by rw [h.lu];exact hi),getD_lt32 (by rw [h.lu];exact hi)];rfl)
 rw [Nat.add_comm];exact this⟩
theorem LatB.setsD {b n:Nat} {u d:List Nat} {w:World} (h:LatB b n u d w):SetsAt b 33 d w:=⟨h.ltd,fun i hi=>by
 have:=h.box.at (i+33) (v:=uV (d.getD i 0)) (by
  show (u.map uV++d.map uV)[i+32]?=_
  rw [List.getElem?_append_right (by rw [List.length_map,h.lu];omega),List.length_map,h.lu,Nat.add_sub_cancel,List.getElem?_map,List.getElem?_eq_getElem (by rw [h.ld];exact hi),getD_lt32 (by rw [h.ld];exact hi)];rfl)
 rw [Nat.add_comm];exact this⟩
theorem set_lt {u:List Nat} {i v:Nat} (h:∀ i,u.getD i 0<4294967296) (hv:v<4294967296):∀ k,(u.set i v).getD k 0<4294967296:=fun k=>by
 by_cases hi:i<u.length
 ·rw [getD_set _ _ _ _ hi];split
  ·exact hv
  ·exact h k
 ·rw [List.set_eq_of_length_le (by omega)];exact h k
theorem LatB.setU {b n:Nat} {u d:List Nat} {w:World} (h:LatB b n u d w) {i:Nat} (hi:i<32) {v:Nat} (hv:v<4294967296):LatB b n (u.set i v) d (w.setCell ⟨b,1+i,none⟩ (.int .u32 (v:Int))):=by
 refine ⟨?_,by rw [List.length_set];exact h.lu,h.ld,set_lt h.ltu hv,h.ltd⟩
 have e:lcells n (u.set i v) d=(lcells n u d).set (1+i) (uV v):=by
  unfold lcells
  rw [Nat.add_comm 1 i,List.set_cons_succ,List.set_append_left _ _ (by rw [List.length_map,h.lu];exact hi),List.map_set]
 rw [e]
 exact h.box.set (1+i) (uV v)
theorem LatB.setD {b n:Nat} {u d:List Nat} {w:World} (h:LatB b n u d w) {i:Nat} (hi:i<32) {v:Nat} (hv:v<4294967296):LatB b n u (d.set i v) (w.setCell ⟨b,33+i,none⟩ (.int .u32 (v:Int))):=by
 refine ⟨?_,h.lu,by rw [List.length_set];exact h.ld,h.ltu,set_lt h.ltd hv⟩
 have e:lcells n u (d.set i v)=(lcells n u d).set (33+i) (uV v):=by
  unfold lcells
  rw [show 33+i=(32+i)+1 by omega,List.set_cons_succ,List.set_append_right _ _ (by rw [List.length_map,h.lu];omega),List.length_map,h.lu,Nat.add_sub_cancel_left,List.map_set]
 rw [e]
 exact h.box.set (33+i) (uV v)
theorem LatB.fr {b n:Nat} {u d:List Nat} {w:World} (h:LatB b n u d w) (i:Nat):w.frozen? ⟨b,i,none⟩=false:=h.box.fr i
theorem LatB.keep {b n:Nat} {u d:List Nat} {w w':World} (h:LatB b n u d w) (e:w'.heap[b]?=w.heap[b]?):LatB b n u d w':=⟨h.box.keep e,h.lu,h.ld,h.ltu,h.ltd⟩
theorem whole_true {s:List Nat} {n:Nat} (h:∀ a,a<n→∀ c,c<n→boundB s (s.getD a 0 &&& s.getD c 0)=true):wholeB s n=true:=by
 unfold wholeB
 simp only [List.all_eq_true,List.mem_range]
 exact h
theorem whole_false {s:List Nat} {n a c:Nat} (ha:a<n) (hc:c<n) (h:boundB s (s.getD a 0 &&& s.getD c 0)=false):wholeB s n=false:=by
 rw [Bool.eq_false_iff]
 intro e
 unfold wholeB at e
 simp only [List.all_eq_true,List.mem_range] at e
 rw [e a ha c hc] at h
 cases h
set_option maxRecDepth 100000 in
set_option maxHeartbeats 4000000 in
theorem whole_any (b o bn n:Nat) (s:List Nat) (w:World) (hn:n≤32) (hc:w.cell? ⟨bn,0,none⟩=some (.int .i64 (n:Int))) (hs:SetsAt b o s w) (hT:Bru w) :
  Calls Tryd.prog 25 #[.pointer (some ⟨b,o,none⟩),.pointer (some ⟨bn,0,none⟩)] w fun e w'=>e = .returned (.bool (wholeB s n))∧(∃ m,w'=w.drewN m):=by
 have HS:=hid hs
 have HT:=hid hT
 have HN:=hid hn
 have HC:=hid hc
 clear hs hT hn
 go_enter Tryd.func25,Tryd.ntmps25
 go_wp2_with fail
 go_loopw [7] (fun v W=>∃ i:Nat,i≤n∧v = .int .i64 (i:Int)∧(∀ a,a<i→∀ c,c<n→boundB s (s.getD a 0 &&& s.getD c 0)=true)∧∃ m,W=w.drewN m) (fun v _=>n - (intOf v).toNat)
 case atStart=>exact ⟨0,Nat.zero_le _,rfl,fun a h=>by omega,0,rfl⟩
 case round =>
  obtain ⟨i,hi,rfl,hall,m,hw⟩:=hrel
  have HALL:=hid hall
  have HW:=hid hw
  have hci:wr.cell? ⟨bn,0,none⟩=some (.int .i64 (n:Int)):=by rw [hw];exact HC.out
  clear hall hw hc
  by_cases hlt:i<n
  ·have t1:decide ((i:Int)<(n:Int))=true:=decide_eq_true (by omega)
   go_wp2_with fail
   go_loopw [11] (fun v W=>∃ k:Nat,k≤n∧v = .int .i64 (k:Int)∧(∀ c,c<k→boundB s (s.getD i 0 &&& s.getD c 0)=true)∧∃ m,W=w.drewN m) (fun v _=>n - (intOf v).toNat)
   case atStart=>exact ⟨0,Nat.zero_le _,rfl,fun a h=>by omega,m,HW.out⟩
   case round =>
    obtain ⟨k,hk,rfl,hin,m1,hw1⟩:=hrel
    have HIN:=hid hin
    have HW1:=hid hw1
    clear hin hw1
    by_cases hlk:k<n
    ·have t2:decide ((k:Int)<(n:Int))=true:=decide_eq_true (by omega)
     go_upto_region 7 with fail
     have HSD:=hid (show SetsAt b o s wr.drew from by rw [HW1.out];exact ⟨HS.out.lt,fun i hi=>HS.out.at' i hi⟩)
     have HTD:=hid (show Bru wr.drew from by rw [HW1.out];exact fun i hi=>HT.out i hi)
     have hq1:wr.drew=w.drewN (m1+1):=by rw [HW1.out];rfl
     have ci:=HSD.out.at' i (by have:=HN.out;omega)
     have ck:=HSD.out.at' k (by have:=HN.out;omega)
     obtain ⟨A,hA⟩:∃ A,s.getD i 0=A:=⟨_,rfl⟩
     obtain ⟨C,hC⟩:∃ A,s.getD k 0=A:=⟨_,rfl⟩
     have hAC:=and_u32 A C (by rw [← hA];exact HS.out.lt i) (by rw [← hC];exact HS.out.lt k)
     have HALT:=hid (show A &&& C<4294967296 from and_lt (by rw [← hA];exact HS.out.lt i))
     rw [hA] at ci
     rw [hC] at ck
     have HA:=hid hA;have HCC:=hid hC
     have hi32:(i:Int)<32:=by have:=HN.out;omega
     have hk32:(k:Int)<32:=by have:=HN.out;omega
     obtain ⟨N,hNN⟩:∃ N,A &&& C=N:=⟨_,rfl⟩
     rw [hNN] at hAC
     have HNN:=hid hNN
     have HBD:=hid (bound_any b o s N wr.drew (by rw [← hNN];exact HALT.out) HSD.out HTD.out)
     have HQ1:=hid hq1
     have hS:(fun W:World=>W.cell? ⟨b,o+i,none⟩=some (.int .u32 (A:Int))∧W.cell? ⟨b,o+k,none⟩=some (.int .u32 (C:Int))) wr.drew:=⟨ci,ck⟩
     clear hq1 hA hC hNN ci ck
     have hFa:=fT
     refine rgN (fun W:World=>W.cell? ⟨b,o+i,none⟩=some (.int .u32 (A:Int))∧W.cell? ⟨b,o+k,none⟩=some (.int .u32 (C:Int))) 14 (by kernel_rfl) ?_
     simp only [List.size_toArray,List.length_cons,List.length_nil,Nat.reduceAdd]
     iterate 12 (refine wpHJ_nx (v:=?_) 14 rfl rfl (by kernel_rfl) nE hS ?_ ?_;rotate_left;(focus refine Or.inl ⟨by rfl,?_⟩;rintro w' ⟨s0,s1⟩;go_simp;try rfl);simp only [Act.put,actP,actQ])
     refine wpHJ_only 12 (by kernel_rfl) rfl (fun K hK=>?_)
     go_simp
     (with_reducible refine (callsIn_wide.2 HBD.out).mono ?_)
     rintro e w1 ⟨⟨z,rfl,hz⟩,rfl⟩
     refine hK _ _ (.inr (.inr hS)) ?_
     clear hK K
     (refine wpHJ_nx (v:=?_) 14 rfl rfl (by kernel_rfl) nE hS ?_ ?_;rotate_left;(focus refine Or.inl ⟨by rfl,?_⟩;rintro w' ⟨s0,s1⟩;go_simp;try rfl);simp only [Act.put,actP,actQ])
     refine wpHJ_done (by kernel_rfl) ?_ _
     simp only [onlyN,Exit.then]
     clear hFa
     obtain ⟨bb,hbb⟩:∃ bb,boundB s N=bb:=⟨_,rfl⟩
     rw [hbb]
     have HBB:=hid hbb
     clear hbb
     cases bb with
     | false =>
      simp only [Bool.not_false]
      go_wp2_with fail
      go_ret
      refine ⟨?_,_,HQ1.out⟩
      rw [whole_false hlt hlk (by rw [HA.out,HCC.out,HNN.out];exact HBB.out)]
      rfl
     | true =>
      simp only [Bool.not_true]
      go_wp2_with fail
      go_roundw
      case rel =>
       refine ⟨k+1,by omega,by go_num,fun c hc=>?_,_,HQ1.out⟩
       by_cases e:c=k
       ·subst e;rw [HA.out,HCC.out,HNN.out];exact HBB.out
       ·exact HIN.out c (by omega)
      case measure=>simp [intOf];omega
    ·obtain rfl:k=n:=by omega
     have t2:decide ((k:Int)<(k:Int))=false:=decide_eq_false (by omega)
     have hi32:(i:Int)<32:=by have:=HN.out;omega
     go_wp2_with fail
     go_roundw
     case rel =>
      refine ⟨i+1,by omega,by go_num,fun a ha c hc=>?_,_,HW1.out⟩
      by_cases e:a=i
      ·subst e;exact HIN.out c hc
      ·exact HALL.out a (by omega) c hc
     case measure=>simp [intOf];omega
  ·obtain rfl:i=n:=by omega
   have t1:decide ((i:Int)<(i:Int))=false:=decide_eq_false (by omega)
   go_wp2_with fail
   go_ret
   exact ⟨by rw [whole_true HALL.out];rfl,_,HW.out⟩
end Go.Proofs.YtbijamcoibonkaaDoor
