/-
 Matrices in memory; the joins and meets of the reference.
-/
import Derived.Test.YtbijamcoibonkaaDoorCSPoE
import Derived.Test.YtbijamcoibonkaaDoorCSPoT
import Derived.Deep.DeepCutAuto
namespace Go.Proofs.YtbijamcoibonkaaDoor
set_option linter.unusedSimpArgs false
set_option linter.unusedVariables false
open Go.RowKit Go.Shelf
attribute [local go_sem] Oper.semAt_some
def kRowN (n:Nat):EK Nat where
 n:=1
 pos:=by omega
 E _ _ cs r:=cs=[.slice (some ⟨r,0,none⟩) n n]
 len h:=by rw [h];rfl
 one h:=by subst h;intro u hu;simp at hu;subst hu;rfl
 keep h _:=h
def bRow (n:Nat) (f:Nat→Bool):List Value:=(List.range n).map fun j => .bool (f j)
theorem bRow_at {n:Nat} {f:Nat→Bool} {j:Nat} (h:j<n):(bRow n f)[j]?=some (.bool (f j)):=by
 unfold bRow;rw [List.getElem?_map,List.getElem?_range h];rfl
theorem bRow_set {n:Nat} {f g:Nat→Bool} {j:Nat} {b:Bool} (h:j<n) (hg:∀ i,i<n→g i=if i=j then b else f i):(bRow n f).set j (.bool b)=bRow n g:=by
 refine List.ext_getElem? fun i=>?_
 by_cases hi:i<n
 ·rw [bRow_at hi,hg i hi]
  by_cases e:i=j
  ·subst e;rw [List.getElem?_set_self (by unfold bRow;simpa using hi),if_pos rfl]
  ·rw [List.getElem?_set_ne (fun c=>e c.symm),bRow_at hi,if_neg e]
 ·rw [List.getElem?_eq_none (by unfold bRow;simp;omega),List.getElem?_eq_none (by unfold bRow;simp;omega)]
structure MxA (B x n:Nat) (v:Value) (rs:List Nat) (M:Mx) (w:World):Prop where
 box:BxL 113 x [v] w
 out:GR (kRowN n) NoR B 114 w v rs
 row:∀ i (h:i<rs.length),BxL 4 rs[i] (bRow n (M i)) w
 nd:rs.Nodup
 ge:∀ r ∈ rs,B≤r
 xb:B≤x
structure MxF (x n:Nat) (M:Mx) (o c:Nat) (r:Nat→Nat) (w:World):Prop where
 hd:w.cell? ⟨x,0,none⟩=some (.slice (some ⟨o,0,none⟩) n c)
 le:n≤c
 ou:∀ i,i<n→w.cell? ⟨o,i,none⟩=some (.slice (some ⟨r i,0,none⟩) n n)
 ro:∀ i,i<n→∀ j,j<n→w.cell? ⟨r i,j,none⟩=some (.bool (M i j))
theorem MxA.full {B x n:Nat} {v:Value} {rs:List Nat} {M:Mx} {w:World} (h:MxA B x n v rs M w) (hl:rs.length=n) (h0:0<n):∃ o c,v = .slice (some ⟨o,0,none⟩) n c∧MxF x n M o c (fun i=>rs.getD i 0) w:=by
 obtain ⟨css,h1,h2⟩:=h.out
 rcases h2.2 with ⟨_,h3⟩ | ⟨g,cap,cur,hv,hb,hg,hcap,hmx,hsz,htk⟩
 ·omega
 rw [hl] at hv
 refine ⟨g,cap,hv,⟨by rw [← hv];exact h.box.at 0 rfl,by omega,fun i hi=>?_,fun i hi j hj=>?_⟩⟩
 ·have hir:i<rs.length:=by rw [hl];exact hi
  have hv2:v = .slice (some ⟨g,0,none⟩) rs.length cap:=by rw [hl];exact hv
  have h2':w.ownsRow B 114 1 (.slice (some ⟨g,0,none⟩) rs.length cap) rs.length css.flatten:=hv2 ▸ h2
  have hi':i<css.length:=by rw [h1.1,hl];exact hi
  have hE:css[i]=[.slice (some ⟨rs[i]'hir,0,none⟩) n n]:=h1.2 i hir hi'
  have a0:=h1.lens.at i 0 hi' (show 0<1 from Nat.one_pos)
  rw [hE] at a0
  have a1:=h2'.cellAt i (by rw [Nat.mul_one];exact hir)
  have e:i*(kRowN n).n+0=i:=Nat.mul_one i
  rw [e] at a0
  rw [a1,a0,List.getD_eq_getElem?_getD,List.getElem?_eq_getElem hir]
  rfl
 ·have hir:i<rs.length:=by rw [hl];exact hi
  have:=(h.row i hir).at j (bRow_at hj)
  rw [List.getD_eq_getElem?_getD,List.getElem?_eq_getElem hir]
  exact this
def jAll (M:Mx) (a b c m:Nat):Bool:=(List.range m).all fun d=>M c d || !M a d || !M b d
def mAll (M:Mx) (a b c m:Nat):Bool:=(List.range m).all fun d=>M d c || !M d a || !M d b
theorem jAll_next (M:Mx) (a b c m:Nat):jAll M a b c (m+1)=(jAll M a b c m && (M c m || !M a m || !M b m)):=by unfold jAll;rw [List.range_succ,List.all_append];simp
theorem mAll_next (M:Mx) (a b c m:Nat):mAll M a b c (m+1)=(mAll M a b c m && (M m c || !M m a || !M m b)):=by unfold mAll;rw [List.range_succ,List.all_append];simp
theorem jAll_ge {M:Mx} {a b c m n:Nat} (h:m≤n) (hf:jAll M a b c m=false):jAll M a b c n=false:=by
 unfold jAll at hf ⊢
 rw [List.all_eq_false] at hf ⊢
 obtain ⟨x,hx,hy⟩:=hf
 exact ⟨x,List.mem_range.2 (by have:=List.mem_range.1 hx;omega),hy⟩
theorem mAll_ge {M:Mx} {a b c m n:Nat} (h:m≤n) (hf:mAll M a b c m=false):mAll M a b c n=false:=by
 unfold mAll at hf ⊢
 rw [List.all_eq_false] at hf ⊢
 obtain ⟨x,hx,hy⟩:=hf
 exact ⟨x,List.mem_range.2 (by have:=List.mem_range.1 hx;omega),hy⟩
set_option maxRecDepth 100000 in
set_option maxHeartbeats 4000000 in
theorem join_rf (x n:Nat) (M:Mx) (o cc:Nat) (r:Nat→Nat) (a b:Nat) (w:World) (hF:MxF x n M o cc r w) (ha:a<n) (hb:b<n) (hn:n≤32) :
  Calls Tryd.prog 66 #[.pointer (some ⟨x,0,none⟩),.int .i64 (a:Int),.int .i64 (b:Int)] w fun e w'=>(∃ z:Int,e = .returned (.int .i64 z)∧decide (0≤z)=joinM M n a b)∧w'=w:=by
 have HF:=hid hF;have HA:=hid ha;have HB:=hid hb
 have hle:=hF.le
 clear hF
 go_enter Tryd.func66,Tryd.ntmps66
 go_wp2_with fail
 go_loopw [7,8,9] (fun cv v8 v9 wr=>∃ c:Nat,c≤n∧cv = .int .i64 (c:Int)∧(∀ c',c'<c→((M a c' && M b c') && jAll M a b c' n)=false)∧w=wr) (fun cv _ _ _=>n - (intOf cv).toNat)
 case atStart=>exact ⟨0,Nat.zero_le _,rfl,fun c' h=>absurd h (Nat.not_lt_zero _),rfl⟩
 case round =>
  obtain ⟨c,hc,rfl,hno,rfl⟩:=hrel
  have hhd:=HF.out.hd
  by_cases hcn:c<n
  ·have u1:=HF.out.ou a HA.out;have u2:=HF.out.ou b HB.out;have u3:=HF.out.ou c hcn
   have x1:=HF.out.ro a ha c hcn
   have x2:=HF.out.ro b hb c hcn
   have HNX:=hid (fun (h9:((M a c && M b c) && jAll M a b c n)=false)=>show ∀ c',c'<c+1→((M a c' && M b c') && jAll M a b c' n)=false from fun c' h=>by
    by_cases e:c'=c
    ·subst e;exact h9
    ·exact hno c' (by omega))
   have HFD:=hid (fun (h9:((M a c && M b c) && jAll M a b c n)=true)=>show ∃ z:Int,Ending.returned (.int .i64 (c:Int)) = .returned (.int .i64 z)∧decide (0≤z)=joinM M n a b from ⟨c,rfl,by
    rw [decide_eq_true (by omega),eq_comm]
    exact List.any_eq_true.2 ⟨c,List.mem_range.2 hcn,h9⟩⟩)
   have hcd:decide ((c:Int)<(n:Int))=true:=decide_eq_true (by omega)
   clear hno
   cases h1:M a c
   ·rw [h1] at x1 HNX HFD
    have HNO:((false && M b c) && jAll M a b c n)=false:=by simp
    go_wp2_with fail
    go_loopw [8,9] (fun bv dv wr=>dv = .int .i64 0∧bv = .bool false∧w=wr) (fun _ dv _=>0)
    case atStart=>exact ⟨rfl,rfl,rfl⟩
    case round =>
     obtain ⟨rfl,rfl,rfl⟩:=hrel
     go_wp2_with fail
     go_roundw
     case rel=>exact ⟨c+1,hcn,rfl,HNX.out (HNO),by first | rfl | trivial⟩
     case measure=>simp [intOf] <;> omega
   ·rw [h1] at x1 HNX HFD
    obtain ⟨bb,hbb⟩:∃ bb,M b c=bb:=⟨_,rfl⟩
    rw [hbb] at x2 HNX HFD
    go_wp2_with fail
    go_loopw [8,9] (fun bv dv wr=>∃ (d:Nat) (lv:Bool),d≤n∧dv = .int .i64 (d:Int)∧bv = .bool lv∧lv=(bb && jAll M a b c d)∧w=wr) (fun _ dv _=>n - (intOf dv).toNat)
    case atStart=>exact ⟨0,bb,Nat.zero_le _,rfl,rfl,by simp [jAll],rfl⟩
    case round =>
     obtain ⟨d,lv,hd,rfl,rfl,hlv,rfl⟩:=hrel
     by_cases hdn:d<n
     ·have td:decide ((d:Int)<(n:Int))=true:=decide_eq_true (by omega)
      cases lv
      ·have HNO:((true && bb) && jAll M a b c n)=false:=by
        cases bb
        ·simp
        ·rw [Bool.true_and] at hlv ⊢;rw [Bool.true_and];exact jAll_ge hd hlv.symm
       clear hlv hbb
       go_wp2_with fail
       go_roundw
       case rel=>exact ⟨c+1,hcn,rfl,HNX.out (HNO),by first | rfl | trivial⟩
       case measure=>simp [intOf] <;> omega
      ·have HLV:=hid hlv
       have u4:=HF.out.ou d hdn
       have y1:=HF.out.ro c hcn d hdn
       have y2:=HF.out.ro a ha d hdn
       have y3:=HF.out.ro b hb d hdn
       clear hlv hbb
       cases hX:M c d
       ·rw [hX] at y1
        cases hY:M a d
        ·rw [hY] at y2
         go_wp2_with fail
         go_roundw
         case rel=>exact ⟨d+1,true,hdn,rfl,rfl,by rw [jAll_next,hX,hY,← Bool.and_assoc,← HLV.out];rfl,by first | rfl | trivial⟩
         case measure=>simp [intOf] <;> omega
        ·rw [hY] at y2
         obtain ⟨bz,hz⟩:∃ bz,M b d=bz:=⟨_,rfl⟩
         rw [hz] at y3
         have HZ:=hid hz
         clear hz
         go_wp2_with fail
         go_roundw
         case rel=>exact ⟨d+1,!bz,hdn,rfl,rfl,by rw [jAll_next,hX,hY,← Bool.and_assoc,← HLV.out,HZ.out];rfl,by first | rfl | trivial⟩
         case measure=>simp [intOf] <;> omega
       ·rw [hX] at y1
        go_wp2_with fail
        go_roundw
        case rel=>exact ⟨d+1,true,hdn,rfl,rfl,by rw [jAll_next,hX,← Bool.and_assoc,← HLV.out];rfl,by first | rfl | trivial⟩
        case measure=>simp [intOf] <;> omega
     ·obtain rfl:d=n:=by omega
      cases lv
      ·have HNO:((true && bb) && jAll M a b c d)=false:=by rw [Bool.true_and];exact hlv.symm
       clear hlv hbb
       go_wp2_with fail
       go_roundw
       case rel=>exact ⟨c+1,hcn,rfl,HNX.out (HNO),by first | rfl | trivial⟩
       case measure=>simp [intOf] <;> omega
      ·have HYES:((true && bb) && jAll M a b c d)=true:=by rw [Bool.true_and];exact hlv.symm
       clear hlv hbb
       go_wp2_with fail
       go_ret
       exact ⟨HFD.out HYES,rfl⟩
  ·obtain rfl:c=n:=by omega
   have HNO:=hid (show ∃ z:Int,Ending.returned (.int .i64 (-1)) = .returned (.int .i64 z)∧decide (0≤z)=joinM M c a b from ⟨-1,rfl,by
    rw [decide_eq_false (by omega),eq_comm]
    exact List.any_eq_false.2 fun c' h=>by rw [Bool.not_eq_true];exact hno c' (List.mem_range.1 h)⟩)
   clear hno hcn
   go_wp2_with fail
   go_ret
   exact ⟨HNO.out,rfl⟩
set_option maxRecDepth 100000 in
set_option maxHeartbeats 4000000 in
theorem meet_rf (x n:Nat) (M:Mx) (o cc:Nat) (r:Nat→Nat) (a b:Nat) (w:World) (hF:MxF x n M o cc r w) (ha:a<n) (hb:b<n) (hn:n≤32) :
  Calls Tryd.prog 67 #[.pointer (some ⟨x,0,none⟩),.int .i64 (a:Int),.int .i64 (b:Int)] w fun e w'=>(∃ z:Int,e = .returned (.int .i64 z)∧decide (0≤z)=meetM M n a b)∧w'=w:=by
 have HF:=hid hF;have HA:=hid ha;have HB:=hid hb
 have hle:=hF.le
 clear hF
 go_enter Tryd.func67,Tryd.ntmps67
 go_wp2_with fail
 go_loopw [7,8,9] (fun cv v8 v9 wr=>∃ c:Nat,c≤n∧cv = .int .i64 (c:Int)∧(∀ c',c'<c→((M c' a && M c' b) && mAll M a b c' n)=false)∧w=wr) (fun cv _ _ _=>n - (intOf cv).toNat)
 case atStart=>exact ⟨0,Nat.zero_le _,rfl,fun c' h=>absurd h (Nat.not_lt_zero _),rfl⟩
 case round =>
  obtain ⟨c,hc,rfl,hno,rfl⟩:=hrel
  have hhd:=HF.out.hd
  by_cases hcn:c<n
  ·have u1:=HF.out.ou a HA.out;have u2:=HF.out.ou b HB.out;have u3:=HF.out.ou c hcn
   have x1:=HF.out.ro c hcn a ha
   have x2:=HF.out.ro c hcn b hb
   have HNX:=hid (fun (h9:((M c a && M c b) && mAll M a b c n)=false)=>show ∀ c',c'<c+1→((M c' a && M c' b) && mAll M a b c' n)=false from fun c' h=>by
    by_cases e:c'=c
    ·subst e;exact h9
    ·exact hno c' (by omega))
   have HFD:=hid (fun (h9:((M c a && M c b) && mAll M a b c n)=true)=>show ∃ z:Int,Ending.returned (.int .i64 (c:Int)) = .returned (.int .i64 z)∧decide (0≤z)=meetM M n a b from ⟨c,rfl,by
    rw [decide_eq_true (by omega),eq_comm]
    exact List.any_eq_true.2 ⟨c,List.mem_range.2 hcn,h9⟩⟩)
   have hcd:decide ((c:Int)<(n:Int))=true:=decide_eq_true (by omega)
   clear hno
   cases h1:M c a
   ·rw [h1] at x1 HNX HFD
    have HNO:((false && M c b) && mAll M a b c n)=false:=by simp
    go_wp2_with fail
    go_loopw [8,9] (fun bv dv wr=>dv = .int .i64 0∧bv = .bool false∧w=wr) (fun _ dv _=>0)
    case atStart=>exact ⟨rfl,rfl,rfl⟩
    case round =>
     obtain ⟨rfl,rfl,rfl⟩:=hrel
     go_wp2_with fail
     go_roundw
     case rel=>exact ⟨c+1,hcn,rfl,HNX.out (HNO),by first | rfl | trivial⟩
     case measure=>simp [intOf] <;> omega
   ·rw [h1] at x1 HNX HFD
    obtain ⟨bb,hbb⟩:∃ bb,M c b=bb:=⟨_,rfl⟩
    rw [hbb] at x2 HNX HFD
    go_wp2_with fail
    go_loopw [8,9] (fun bv dv wr=>∃ (d:Nat) (lv:Bool),d≤n∧dv = .int .i64 (d:Int)∧bv = .bool lv∧lv=(bb && mAll M a b c d)∧w=wr) (fun _ dv _=>n - (intOf dv).toNat)
    case atStart=>exact ⟨0,bb,Nat.zero_le _,rfl,rfl,by simp [mAll],rfl⟩
    case round =>
     obtain ⟨d,lv,hd,rfl,rfl,hlv,rfl⟩:=hrel
     by_cases hdn:d<n
     ·have td:decide ((d:Int)<(n:Int))=true:=decide_eq_true (by omega)
      cases lv
      ·have HNO:((true && bb) && mAll M a b c n)=false:=by
        cases bb
        ·simp
        ·rw [Bool.true_and] at hlv ⊢;rw [Bool.true_and];exact mAll_ge hd hlv.symm
       clear hlv hbb
       go_wp2_with fail
       go_roundw
       case rel=>exact ⟨c+1,hcn,rfl,HNX.out (HNO),by first | rfl | trivial⟩
       case measure=>simp [intOf] <;> omega
      ·have HLV:=hid hlv
       have u4:=HF.out.ou d hdn
       have y1:=HF.out.ro d hdn c hcn
       have y2:=HF.out.ro d hdn a ha
       have y3:=HF.out.ro d hdn b hb
       clear hlv hbb
       cases hX:M d c
       ·rw [hX] at y1
        cases hY:M d a
        ·rw [hY] at y2
         go_wp2_with fail
         go_roundw
         case rel=>exact ⟨d+1,true,hdn,rfl,rfl,by rw [mAll_next,hX,hY,← Bool.and_assoc,← HLV.out];rfl,by first | rfl | trivial⟩
         case measure=>simp [intOf] <;> omega
        ·rw [hY] at y2
         obtain ⟨bz,hz⟩:∃ bz,M d b=bz:=⟨_,rfl⟩
         rw [hz] at y3
         have HZ:=hid hz
         clear hz
         go_wp2_with fail
         go_roundw
         case rel=>exact ⟨d+1,!bz,hdn,rfl,rfl,by rw [mAll_next,hX,hY,← Bool.and_assoc,← HLV.out,HZ.out];rfl,by first | rfl | trivial⟩
         case measure=>simp [intOf] <;> omega
       ·rw [hX] at y1
        go_wp2_with fail
        go_roundw
        case rel=>exact ⟨d+1,true,hdn,rfl,rfl,by rw [mAll_next,hX,← Bool.and_assoc,← HLV.out];rfl,by first | rfl | trivial⟩
        case measure=>simp [intOf] <;> omega
     ·obtain rfl:d=n:=by omega
      cases lv
      ·have HNO:((true && bb) && mAll M a b c d)=false:=by rw [Bool.true_and];exact hlv.symm
       clear hlv hbb
       go_wp2_with fail
       go_roundw
       case rel=>exact ⟨c+1,hcn,rfl,HNX.out (HNO),by first | rfl | trivial⟩
       case measure=>simp [intOf] <;> omega
      ·have HYES:((true && bb) && mAll M a b c d)=true:=by rw [Bool.true_and];exact hlv.symm
       clear hlv hbb
       go_wp2_with fail
       go_ret
       exact ⟨HFD.out HYES,rfl⟩
  ·obtain rfl:c=n:=by omega
   have HNO:=hid (show ∃ z:Int,Ending.returned (.int .i64 (-1)) = .returned (.int .i64 z)∧decide (0≤z)=meetM M c a b from ⟨-1,rfl,by
    rw [decide_eq_false (by omega),eq_comm]
    exact List.any_eq_false.2 fun c' h=>by rw [Bool.not_eq_true];exact hno c' (List.mem_range.1 h)⟩)
   clear hno hcn
   go_wp2_with fail
   go_ret
   exact ⟨HNO.out,rfl⟩
theorem BxL.neT {t t':TypeId} {b b':Nat} {cs cs':List Value} {w:World} (h:BxL t b cs w) (h':BxL t' b' cs' w) (hne:t ≠ t'):b ≠ b':=by
 intro e
 subst e
 unfold BxL at h h'
 rw [h] at h'
 injection h' with e1
 injection e1 with _ e2
 exact hne e2
theorem MxA.congr {B x n:Nat} {v:Value} {rs:List Nat} {M M':Mx} {w:World} (h:MxA B x n v rs M w) (hM:∀ i,i<rs.length→∀ j,j<n→M i j=M' i j):MxA B x n v rs M' w :=
 ⟨h.box,h.out,fun i hi=>by
  have:bRow n (M i)=bRow n (M' i):=by unfold bRow;exact List.map_congr_left fun j hj=>by rw [hM i hi j (List.mem_range.1 hj)]
  rw [← this];exact h.row i hi,h.nd,h.ge,h.xb⟩
theorem MxA.other {B x n:Nat} {v:Value} {rs:List Nat} {M:Mx} {w w':World} (h:MxA B x n v rs M w) (hb:∀ k,k<w.heap.size→w'.heap[k]?=w.heap[k]?):MxA B x n v rs M w' :=
 ⟨h.box.keep (hb _ h.box.lt),h.out.keepN fun k hk=>hb k (h.out.lt k hk).2,fun i hi=>(h.row i hi).keep (hb _ (h.row i hi).lt),h.nd,h.ge,h.xb⟩
theorem nodup_at {rs:List Nat} (h:rs.Nodup):∀ i j (hi:i<rs.length) (hj:j<rs.length),i ≠ j→rs[i] ≠ rs[j]:=by
 intro i j hi hj hne e
 have hp:=List.pairwise_iff_getElem.1 h
 rcases Nat.lt_or_gt_of_ne hne with hl | hl
 ·exact hp i j hi hj hl e
 ·exact hp j i hj hi hl e.symm
theorem MxA.store {B x n:Nat} {v:Value} {rs:List Nat} {M:Mx} {w:World} (h:MxA B x n v rs M w) (i j:Nat) (hi:i<rs.length) (hj:j<n) (b:Bool):MxA B x n v rs (setM M i j b) (w.setCell ⟨rs[i],j,none⟩ (.bool b)):=by
 have hr:=h.row i hi
 refine ⟨h.box.keep (heap_ot (h.box.neT hr (by decide)) _),h.out.keepN fun k hk=>heap_ot (fun e=>own_ne h.out hr (by decide) (by rw [← e];exact hk)) _,fun i' hi'=>?_,h.nd,h.ge,h.xb⟩
 by_cases e:i'=i
 ·subst e
  have:bRow n (setM M i' j b i')=(bRow n (M i')).set j (.bool b):=(bRow_set hj fun q hq=>by unfold setM;by_cases hqj:q=j <;> simp [hqj]).symm
  rw [this]
  exact hr.set j _
 ·have:bRow n (setM M i j b i')=bRow n (M i'):=by unfold bRow;exact List.map_congr_left fun q _=>by unfold setM;rw [if_neg (fun c=>e c.1)]
  rw [this]
  exact (h.row i' hi').keep (heap_ot (nodup_at h.nd i' i hi' hi e) _)
structure MxG (B x n o c:Nat) (rs:List Nat) (M:Mx) (w:World):Prop where
 a:MxA B x n (.slice (some ⟨o,0,none⟩) n c) rs M w
 len:rs.length=n
theorem MxG.store {B x n o c:Nat} {rs:List Nat} {M:Mx} {w:World} (h:MxG B x n o c rs M w) {i j:Nat} (hi:i<n) (hj:j<n) (b:Bool):MxG B x n o c rs (setM M i j b) (w.setCell ⟨rs.getD i 0,j,none⟩ (.bool b)):=by
 have hir:i<rs.length:=by rw [h.len];exact hi
 have e:rs.getD i 0=rs[i]:=by rw [List.getD_eq_getElem?_getD,List.getElem?_eq_getElem hir];rfl
 rw [e]
 exact ⟨h.a.store i j hir hj b,h.len⟩
theorem MxG.f {B x n o c:Nat} {rs:List Nat} {M:Mx} {w:World} (h:MxG B x n o c rs M w) (h0:0<n):MxF x n M o c (fun i=>rs.getD i 0) w:=by
 obtain ⟨o',c',e,hf⟩:=h.a.full h.len h0
 cases e
 exact hf
theorem MxG.fz {B x n o c:Nat} {rs:List Nat} {M:Mx} {w:World} (h:MxG B x n o c rs M w) {i:Nat} (hi:i<n) (j:Nat):w.frozen? ⟨rs.getD i 0,j,none⟩=false:=by
 have hir:i<rs.length:=by rw [h.len];exact hi
 have e:rs.getD i 0=rs[i]:=by rw [List.getD_eq_getElem?_getD,List.getElem?_eq_getElem hir];rfl
 rw [e]
 exact (h.a.row i hir).fr j
theorem MxG.geB {B x n o c:Nat} {rs:List Nat} {M:Mx} {w:World} (h:MxG B x n o c rs M w) {i:Nat} (hi:i<n):B≤rs.getD i 0:=by
 have hir:i<rs.length:=by rw [h.len];exact hi
 rw [List.getD_eq_getElem?_getD,List.getElem?_eq_getElem hir]
 exact h.a.ge _ (List.getElem_mem _)
theorem MxG.dr {B x n o c:Nat} {rs:List Nat} {M:Mx} {w:World} (h:MxG B x n o c rs M w):MxG B x n o c rs M w.drew:=⟨h.a.other fun _ _=>rfl,h.len⟩
theorem ordM_app (n:Nat):∀ (a b:List (Int × Int)) (M:Mx),ordM n (a++b) M=(ordM n a M).bind (ordM n b)
 | [],b,M=>rfl
 | p :: r,b,M=>by
  show (if pairB n p then ordM n (r++b) _ else none)=(if pairB n p then ordM n r _ else none).bind _
  split
  ·exact ordM_app n r b _
  ·rfl
theorem ordM_step {n:Nat} {od:List (Int × Int)} {k:Nat} (hk:k<od.length) {M0 M:Mx} (h:ordM n (od.take k) M0=some M) :
  (pairB n od[k]=true→ordM n (od.take (k+1)) M0=some (setM M od[k].1.toNat od[k].2.toNat true))∧(pairB n od[k]=false→ordM n od M0=none):=by
 have e1:od.take (k+1)=od.take k++[od[k]]:=List.take_succ_eq_append_getElem hk
 constructor
 ·intro hp
  rw [e1,ordM_app,h]
  show (if pairB n od[k] then ordM n [] _ else none)=_
  rw [if_pos hp];rfl
 ·intro hp
  have e2:od=od.take k++od[k] :: od.drop (k+1):=by rw [← List.drop_eq_getElem_cons hk,List.take_append_drop]
  rw [e2,ordM_app,h]
  show (if pairB n od[k] then _ else none)=_
  rw [if_neg (by rw [hp];simp)]
theorem closeJ_next (k i m:Nat) (M:Mx):closeJ k i (m+1) M=setM (closeJ k i m M) i m (closeJ k i m M i m || closeJ k i m M i k && closeJ k i m M k m):=by unfold closeJ;rw [List.range_succ,List.foldl_append];rfl
theorem closeMI_next (k n m:Nat) (M:Mx):closeMI k n (m+1) M=closeJ k m n (closeMI k n m M):=by unfold closeMI;rw [List.range_succ,List.foldl_append];rfl
theorem closeMK_next (n m:Nat) (M:Mx):closeMK n (m+1) M=closeMI m n n (closeMK n m M):=by unfold closeMK;rw [List.range_succ,List.foldl_append];rfl
theorem info_bss:(Tryd.prog.info? 114).map (fun i=>(i.zero,i.size,i.bytes))=some (some (.slice none 0 0),1,24):=by kernel_rfl
theorem info_boB:(Tryd.prog.info? 4).map (fun i=>(i.zero,i.size,i.bytes))=some (some (.bool false),1,1):=by kernel_rfl
theorem make_runB {P:Program} {t e:TypeId} {z:Value} {bytes:Nat} (ht:P.underlying t=some (.slice e))
  (hinfo:(P.info? e).map (fun i=>(i.zero,i.size,i.bytes))=some (some z,1,bytes)) (hzs:z.cells=#[z]) (n:Nat) (hb:bytes*n≤281474976710656) (hn:n≤281474976710656) (w:World) :
  (Instr.makeSlice t (.int .i64 (n:Int)) (.int .i64 (n:Int))).run P w = .ok (.slice (some ⟨w.heap.size,0,none⟩) n n) (w.alloc (.cells (Array.replicate n z) e)):=by
 obtain ⟨i,hi,hz,hs1,hby⟩:=info_parts hinfo
 have h:=run_make (P:=P) w t e i z ht hi hz .i64 .i64 (n:Int) (n:Int) (by omega) (Int.le_refl _) (by rw [hby];omega) (by omega)
 rw [h]
 simp only [Int.toNat_natCast,hs1,Nat.mul_one,hzs]
 have e:madeCells #[z] n=Array.replicate n z:=by
  apply Array.ext
  ·simp [madeCells]
  ·intro i h1 h2
   simp [madeCells,Nat.mod_one]
 rw [e]
theorem rep_row (n:Nat):(.cells (Array.replicate n (.bool false)) 4:Obj) = .cells (bRow n fun _=>false).toArray 4:=by
 congr 1
 apply Array.ext
 ·simp [bRow]
 ·intro i h1 h2;simp [bRow]
theorem MxA.add {B x n r:Nat} {v v':Value} {rs:List Nat} {M:Mx} {w w2 w3:World} (h:MxA B x n v rs M w) (hw:∀ k,k<w.heap.size→w2.heap[k]?=w.heap[k]?) (hr2:BxL 4 r (bRow n fun _=>false) w2) (hr:w.heap.size≤r) (hg:w2.grownBy w3 v.ownBlock)
  (hG:GR (kRowN n) NoR B 114 w3 v' (rs++[r])) (hB:B≤r):MxA B x n v' (rs++[r]) (fun i=>if i=rs.length then fun _=>false else M i) (w3.setCell ⟨x,0,none⟩ v'):=by
 have h2:MxA B x n v rs M w2:=h.other hw
 have hbox3:BxL 113 x [v] w3:=h2.box.keep (hg.block x h2.box.lt fun e=>own_ne h2.out h2.box (by decide) e.symm)
 have hrow3:∀ {b:Nat} {cs:List Value},BxL 4 b cs w2→BxL 4 b cs w3:=fun {b} {cs} hx=>hx.keep (hg.block b hx.lt fun e=>own_ne h2.out hx (by decide) e.symm)
 have hx3:=hbox3.set 0 v'
 have hk3:∀ {b:Nat} {cs:List Value},BxL 4 b cs w3→BxL 4 b cs (w3.setCell ⟨x,0,none⟩ v'):=fun {b} {cs} hx=>hx.keep (heap_ot (hx.neT hbox3 (by decide)) _)
 refine ⟨hx3,hG.keepN fun k hk=>heap_ot (fun e=>own_ne hG hbox3 (by decide) (by rw [← e];exact hk)) _,fun i hi=>?_,?_,fun q hq=>?_,h.xb⟩
 ·by_cases hlt:i<rs.length
  ·have e:(rs++[r])[i]=rs[i]:=List.getElem_append_left hlt
   rw [e,if_neg (by omega)]
   exact hk3 (hrow3 (h2.row i hlt))
  ·have hi2:i=rs.length:=by simp at hi;omega
   subst hi2
   have e:(rs++[r])[rs.length]=r:=by simp
   rw [e,if_pos rfl]
   exact hk3 (hrow3 hr2)
 ·refine List.nodup_append.2 ⟨h.nd,by simp,fun a ha b hb e=>?_⟩
  simp at hb
  obtain ⟨i,hi,rfl⟩:=List.mem_iff_getElem.1 ha
  have:=(h.row i hi).lt
  omega
 ·rcases List.mem_append.1 hq with hq | hq
  ·exact h.ge q hq
  ·simp at hq;omega
end Go.Proofs.YtbijamcoibonkaaDoor
