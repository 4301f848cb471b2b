/-
 Lattices of levels: New.
-/
import Derived.Test.YtbijamcoibonkaaDoorCSLtN
namespace Go.Proofs.YtbijamcoibonkaaDoor
set_option linter.unusedSimpArgs false
set_option linter.unusedVariables false
open Go.RowKit Go.Shelf
attribute [local go_sem] Oper.semAt_some
structure NewI (w:World) (n:Nat) (u d:List Nat) (W:World):Prop where
 bel:Below w.heap.size w W
 cn:BxL 3 w.heap.size [.int .i64 (n:Int)] W
 la:LatB (w.heap.size+1) n u d W
theorem NewI.cell {w:World} {n:Nat} {u d:List Nat} {W:World} (h:NewI w n u d W):W.cell? ⟨w.heap.size,0,none⟩=some (.int .i64 (n:Int)):=h.cn.at 0 rfl
theorem NewI.drew {w:World} {n:Nat} {u d:List Nat} {W:World} (h:NewI w n u d W):NewI w n u d W.drew:=⟨h.bel.drew,h.cn,h.la.keep rfl⟩
theorem NewI.drewN {w:World} {n:Nat} {u d:List Nat} {W:World} (h:NewI w n u d W) (m:Nat):NewI w n u d (W.drewN m):=⟨below_drewN h.bel _,h.cn,h.la.keep rfl⟩
theorem NewI.alloc {w:World} {n:Nat} {u d:List Nat} {W:World} (h:NewI w n u d W) (o:Obj):NewI w n u d (W.alloc o) :=
 ⟨h.bel.alloc h.bel.size o,h.cn.keep (by rw [heap_al,if_neg (by have:=h.cn.lt;omega)]),h.la.keep (by rw [heap_al,if_neg (by have:=h.la.box.lt;omega)])⟩
theorem NewI.setU {w:World} {n:Nat} {u d:List Nat} {W:World} (h:NewI w n u d W) {i:Nat} (hi:i<32) {v:Nat} (hv:v<4294967296):NewI w n (u.set i v) d (W.setCell ⟨w.heap.size+1,1+i,none⟩ (.int .u32 (v:Int))) :=
 ⟨h.bel.setCell (by show w.heap.size≤w.heap.size+1;omega) _,h.cn.keep (heap_ot (by omega) _),h.la.setU hi hv⟩
theorem NewI.setD {w:World} {n:Nat} {u d:List Nat} {W:World} (h:NewI w n u d W) {i:Nat} (hi:i<32) {v:Nat} (hv:v<4294967296):NewI w n u (d.set i v) (W.setCell ⟨w.heap.size+1,33+i,none⟩ (.int .u32 (v:Int))) :=
 ⟨h.bel.setCell (by show w.heap.size≤w.heap.size+1;omega) _,h.cn.keep (heap_ot (by omega) _),h.la.setD hi hv⟩
theorem NewI.cu {w:World} {n:Nat} {u d:List Nat} {W:World} (h:NewI w n u d W) {i:Nat} (hi:i<32):W.cell? ⟨w.heap.size+1,1+i,none⟩=some (.int .u32 (u.getD i 0:Nat)):=h.la.setsU.at' i hi
theorem NewI.cd {w:World} {n:Nat} {u d:List Nat} {W:World} (h:NewI w n u d W) {i:Nat} (hi:i<32):W.cell? ⟨w.heap.size+1,33+i,none⟩=some (.int .u32 (d.getD i 0:Nat)):=h.la.setsD.at' i hi
theorem ups_next {i:Nat} (h:i<32):(upsL i).set i (2 ^ i)=upsL (i+1):=by
 unfold upsL
 rw [List.set_append_right _ _ (by simp),List.length_map,List.length_range,Nat.sub_self,List.range_succ,List.map_append,List.append_assoc]
 congr 1
 rw [show 32 - i=(32 - (i+1))+1 by omega,List.replicate_succ,List.set_cons_zero]
 rfl
theorem pow_lt32 {i:Nat} (h:i<32):2 ^ i<4294967296:=by
 rw [show (4294967296:Nat)=2 ^ 32 from rfl]
 exact Nat.pow_lt_pow_right (by omega) h
theorem shl_u32 (i:Nat) (h:i<32):IntKind.u32.wrap ((2:Int) ^ i)=((2 ^ i:Nat):Int):=by
 have:=pow_lt32 h
 rw [show (2:Int) ^ i=((2 ^ i:Nat):Int) by simp,wrap_u32 _ this]
theorem ordL_app (n:Nat):∀ (a b:List (Int × Int)) (u:List Nat),ordL n (a++b) u=(ordL n a u).bind (ordL n b)
 | [],b,u=>rfl
 | p :: r,b,u=>by
  rw [List.cons_append]
  unfold ordL
  split
  ·exact ordL_app n r b _
  ·rfl
theorem ord_step {n:Nat} {od:List (Int × Int)} {k:Nat} (hk:k<od.length) {u0 u:List Nat} (h:ordL n (od.take k) u0=some u) :
  (pairB n od[k]=true→ordL n (od.take (k+1)) u0=some (ordS u od[k]))∧(pairB n od[k]=false→ordL n od u0=none):=by
 have e:od.take (k+1)=od.take k++[od[k]]:=by simp
 refine ⟨fun hp=>?_,fun hp=>?_⟩
 ·rw [e,ordL_app,h]
  show ordL n [od[k]] u=_
  unfold ordL
  rw [if_pos hp];rfl
 ·have e2:od=od.take k++od.drop k:=(List.take_append_drop k od).symm
  rw [e2,ordL_app,h]
  show ordL n (od.drop k) u=none
  rw [List.drop_eq_getElem_cons hk]
  unfold ordL
  rw [if_neg (by rw [hp];simp)]
theorem closeI_next (k i:Nat) (u:List Nat):closeI k (i+1) u=closeS k (closeI k i u) i:=by simp [closeI,List.range_succ]
theorem closeK_next (n k:Nat) (u:List Nat):closeK n (k+1) u=closeI k n (closeK n k u):=by simp [closeK,List.range_succ]
theorem downI_next (u:List Nat) (i k:Nat) (d:List Nat):downI u i (k+1) d=downS u i (downI u i k d) k:=by simp [downI,List.range_succ]
theorem downK_next (u:List Nat) (n i:Nat) (d:List Nat):downK u n (i+1) d=downI u i n (downK u n i d):=by simp [downK,List.range_succ]
def latU (n:Nat):Option (List Nat)→Int
 | none=>3
 | some u=>latT n (closeK n n u)
theorem loopy_true {U D:List Nat} {n i:Nat} (hi:i<n) (h:¬ U.getD i 0 &&& D.getD i 0=2 ^ i):loopyB U D n=true:=by
 unfold loopyB
 simp only [List.any_eq_true,List.mem_range,decide_eq_true_eq]
 exact ⟨i,hi,h⟩
theorem loopy_false {U D:List Nat} {n:Nat} (h:∀ i,i<n→U.getD i 0 &&& D.getD i 0=2 ^ i):loopyB U D n=false:=by
 rw [Bool.eq_false_iff]
 intro e
 unfold loopyB at e
 simp only [List.any_eq_true,List.mem_range,decide_eq_true_eq] at e
 obtain ⟨i,hi,h2⟩:=e
 exact h2 (h i hi)
theorem pair_false {n:Nat} {p:Int × Int} (h:pairB n p=false):p.1<0∨(0≤p.1∧(n:Int)≤p.1)∨(0≤p.1∧p.1<(n:Int)∧p.2<0)∨(0≤p.1∧p.1<(n:Int)∧0≤p.2∧(n:Int)≤p.2):=by
 have:¬ (pairB n p=true):=by rw [h];simp
 unfold pairB at this
 simp only [Bool.and_eq_true,decide_eq_true_eq] at this
 omega
theorem pair_true {n:Nat} {p:Int × Int} (h:pairB n p=true):0≤p.1∧p.1<(n:Int)∧0≤p.2∧p.2<(n:Int):=by
 unfold pairB at h
 simp only [Bool.and_eq_true,decide_eq_true_eq] at h
 exact ⟨h.1.1,h.1.2,h.2.1,h.2.2⟩
theorem pair_at {R:Nat→Prop} {w:World} {p:Option Addr} {n c:Nat} {l:List (Int × Int)} (h:SlG kPair R w (.slice p n c) l) (hl:0<l.length) :
  ∃ b off,p=some ⟨b,off,none⟩∧R b∧∀ k (hk:k<l.length),w.cell? ⟨b,off+k*2,none⟩=some (.int .i64 l[k].1)∧w.cell? ⟨b,off+k*2+1,none⟩=some (.int .i64 l[k].2):=by
 obtain ⟨b,off,e,hR,hc⟩:=h.at hl
 refine ⟨b,off,e,hR,fun k hk=>?_⟩
 obtain ⟨cs,hcs,hat⟩:=hc k hk
 have hcs:cs=[.int .i64 l[k].1,.int .i64 l[k].2]:=hcs
 subst hcs
 exact ⟨hat 0 _ rfl,hat 1 _ rfl⟩
set_option maxRecDepth 100000 in
set_option maxHeartbeats 4000000 in
theorem new_any (n:Nat) (od:List (Int × Int)) (v:Value) (w:World) (hv:SlG kPair (·<w.heap.size) w v od) (hn:n≤100000) (hT:Bru w) :
  Calls Tryd.prog 9 #[.int .i64 (n:Int),v] w fun e w'=>(∃ p,e = .returned (.tuple #[.pointer p,.int .i64 (latE n od)]))∧Below w.heap.size w w':=by
 obtain ⟨pv,cv,rfl⟩:=hv.slc
 have HV:=hid hv;have HT:=hid hT;have HL:=hid hv.len
 have HB1:=hid (show Below w.heap.size w (w.alloc (.cells #[.int .i64 (n:Int)] 3)) from (Below.refl _ _).alloc (Nat.le_refl _) _)
 clear hv hT
 by_cases h1:n<1
 ·have t1:decide ((n:Int)<1)=true:=decide_eq_true (by omega)
  have HE:=hid (show latE n od=3 from if_pos (.inl h1))
  clear h1 hn
  go_enter Tryd.func9,Tryd.ntmps9
  go_wp2_with fail
  go_ret2
  exact ⟨⟨none,by rw [HE.out];rfl⟩,HB1.out⟩
 have t1:decide ((n:Int)<1)=false:=decide_eq_false (by omega)
 by_cases h2:32<n
 ·have t2:decide (32<(n:Int))=true:=decide_eq_true (by omega)
  have HE:=hid (show latE n od=3 from if_pos (.inr h2))
  clear h1 hn h2
  go_enter Tryd.func9,Tryd.ntmps9
  go_wp2_with fail
  go_ret2
  exact ⟨⟨none,by rw [HE.out];rfl⟩,HB1.out⟩
 have t2:decide (32<(n:Int))=false:=decide_eq_false (by omega)
 by_cases h3:1024<od.length
 ·have HE:=hid (show latE n od=5 from by unfold latE;rw [if_neg (by omega),if_pos h3])
  obtain ⟨ol,hol⟩:∃ ol,od.length=ol:=⟨_,rfl⟩
  rw [hol] at h3 ⊢
  have t3:decide (1024<(ol:Int))=true:=decide_eq_true (by omega)
  have t3':(1024<(ol:Int)):=by omega
  clear h1 hn h2 hol HV HL
  go_enter Tryd.func9,Tryd.ntmps9
  go_wp2_with fail
  go_ret2
  exact ⟨⟨none,by rw [HE.out];rfl⟩,HB1.out⟩
 have t3:decide (1024<(od.length:Int))=false:=decide_eq_false (by omega)
 have HE:=hid (show latE n od=latU n (ordL n od (upsL n)) from by unfold latE;rw [if_neg (by omega),if_neg h3];cases ordL n od (upsL n) <;> rfl)
 have HN:=hid (show 1≤n∧n≤32 by omega)
 obtain ⟨ol,hol⟩:∃ ol,od.length=ol:=⟨_,rfl⟩
 have HOL:=hid (show ol≤1024 by omega)
 rw [hol] at t3
 have HO:=hid hol
 rw [hol] at HV ⊢
 have t3':¬ (1024<(ol:Int)):=by omega
 clear h1 hn h2 h3 hol HL
 go_enter Tryd.func9,Tryd.ntmps9
 go_upto_region 6 with fail
 obtain ⟨w2,hw2⟩:∃ W,(w.alloc (.cells #[.int .i64 (n:Int)] 3)).alloc (.cells (Tryd.zeroCells57.setIfInBounds 0 (.int .i64 (n:Int))) 57)=W:=⟨_,rfl⟩
 rw [hw2]
 have HI:=hid (show NewI w n (List.replicate 32 0) (List.replicate 32 0) w2 from by
  rw [← hw2]
  refine ⟨HB1.out.alloc HB1.out.size _,?_,?_,by simp,by simp,?_,?_⟩
  ·exact (BxL.new _ w [.int .i64 (n:Int)]).keep (by rw [heap_al,if_neg (by rw [World.size_alloc];omega)])
  ·rw [show Tryd.zeroCells57.setIfInBounds 0 (.int .i64 (n:Int))=(lcells n (List.replicate 32 0) (List.replicate 32 0)).toArray from rfl]
   have:=BxL.new 57 (w.alloc (.cells #[.int .i64 (n:Int)] 3)) (lcells n (List.replicate 32 0) (List.replicate 32 0))
   rw [World.size_alloc] at this
   exact this
  all_goals
   intro i
   rw [List.getD_eq_getElem?_getD,List.getElem?_replicate]
   split <;> simp)
 clear hw2
 have hcn:=HI.out.cell
 go_wp2_with fail
 go_loopw [29] (fun v W=>∃ i:Nat,i≤n∧v = .int .i64 (i:Int)∧NewI w n (upsL i) (List.replicate 32 0) W) (fun v _=>n - (intOf v).toNat)
 case atStart=>exact ⟨0,Nat.zero_le _,rfl,HI.out⟩
 case round =>
  obtain ⟨i,hi,rfl,hI⟩:=hrel
  have HI1:=hid hI
  have hcn1:=hI.cell
  clear hI
  by_cases hlt:i<n
  ·have t4:decide ((i:Int)<(n:Int))=true:=decide_eq_true (by omega)
   have hi32:(i:Int)<32:=by have:=HN.out;omega
   have hnat:i<32:=by omega
   have hsh:=shl_u32 i hnat
   obtain ⟨pw,hpw⟩:∃ pw,2 ^ i=pw:=⟨_,rfl⟩
   rw [hpw] at hsh
   have hfr:=HI1.out.la.fr (1+i)
   have hcl:=HI1.out.cu hnat
   have HPW:=hid hpw
   clear hpw
   go_upto_region 9 with fail
   have hFa:=fT
   refine rgN (fun W:World=>True) 7 (by kernel_rfl) ?_
   simp only [List.size_toArray,List.length_cons,List.length_nil,Nat.reduceAdd]
   iterate 4 (refine wpHJ_nx (v:=?_) 8 rfl rfl (by kernel_rfl) nE trivial ?_ ?_;rotate_left;(focus refine Or.inl ⟨by rfl,?_⟩;rintro w' _;go_simp;try rfl);simp only [Act.put,actP,actQ])
   iterate 2 (refine wpHJ_np (v:=?_) 8 rfl rfl (by kernel_rfl) nE (.inr trivial) ?_ ?_;rotate_left;(focus refine Or.inl ⟨by rfl,?_⟩;rintro w' _;go_simp;try rfl);simp only [Act.put,actP,actQ])
   (refine wpHJ_nx (v:=?_) 8 rfl rfl (by kernel_rfl) nE trivial ?_ ?_;rotate_left;(focus refine Or.inl ⟨by rfl,?_⟩;rintro w' _;go_simp;try rfl);simp only [Act.put,actP,actQ])
   refine wpHJ_only 7 (by kernel_rfl) rfl (fun K hK=>?_)
   go_simp
   refine hK _ _ (.inl rfl) ?_
   clear hK K
   refine wpHJ_done (by kernel_rfl) ?_ _
   simp only [onlyN,Exit.then]
   clear hFa
   go_wp2_with fail
   go_roundw
   case rel =>
    refine ⟨i+1,by omega,by go_num,?_⟩
    rw [← ups_next hnat,HPW.out]
    exact (HI1.out.setU hnat (by rw [← HPW.out];exact pow_lt32 hnat)).drew
   case measure=>simp [intOf];omega
  ·have eqn:n=i:=by omega
   subst eqn
   have t4:decide ((n:Int)<(n:Int))=false:=decide_eq_false (by omega)
   go_wp2_with fail
   go_loopw [42] (fun v W=>∃ k:Nat,k≤ol∧v = .int .i64 (k:Int)∧∃ u,ordL n (od.take k) (upsL n)=some u∧NewI w n u (List.replicate 32 0) W) (fun v _=>ol - (intOf v).toNat)
   case atStart=>exact ⟨0,Nat.zero_le _,rfl,upsL n,rfl,HI1.out⟩
   case round =>
    obtain ⟨k,hk,rfl,u,hu,hI⟩:=hrel
    have HI2:=hid hI;have HU:=hid hu
    have hcn2:=hI.cell
    clear hI hu
    by_cases hlk:k<ol
    ·have t5:decide ((k:Int)<(ol:Int))=true:=decide_eq_true (by omega)
     have hlk':k<od.length:=by rw [HO.out];exact hlk
     obtain ⟨vb,off,rfl,hR,hcells⟩:=pair_at HV.out (by omega)
     obtain ⟨c0,c1⟩:=hcells k hlk'
     have d0:=(HI2.out.bel.cell (p:=⟨vb,off+k*2,none⟩) hR).trans c0
     have d1:=(HI2.out.bel.cell (p:=⟨vb,off+k*2+1,none⟩) hR).trans c1
     have hst:=ord_step hlk' HU.out
     have hst2:=hid hst.2;have hst1:=hid hst.1
     have hpf:=@pair_false n od[k];have hpt:=@pair_true n od[k]
     obtain ⟨q,hq⟩:∃ q,od[k]=q:=⟨_,rfl⟩
     rw [hq] at d0 d1 hst1 hst2 hpf hpt
     obtain ⟨x1,x2⟩:=q
     dsimp only at d0 d1 hpf hpt
     clear hq c0 c1 hcells hst
     have hcnA:∀ o,(wr.alloc o).cell? ⟨w.heap.size,0,none⟩=some (.int .i64 (n:Int)):=fun o=>(HI2.out.alloc o).cell
     have hkb:(k:Int)≤1024:=by have:=HOL.out;omega
     by_cases hp:pairB n (x1,x2)=true
     ·obtain ⟨g1,g2,g3,g4⟩:=hpt hp
      have HST:=hid (hst1.out hp)
      obtain ⟨A,rfl⟩:∃ A:Nat,x1=(A:Int):=⟨x1.toNat,by omega⟩
      obtain ⟨C,rfl⟩:∃ C:Nat,x2=(C:Int):=⟨x2.toNat,by omega⟩
      have hA32:A<32:=by have:=HN.out;omega
      have hC32:C<32:=by have:=HN.out;omega
      have hA32i:(A:Int)<32:=by omega
      have f1:decide ((A:Int)<0)=false:=decide_eq_false (by omega)
      have f2:decide ((n:Int)≤(A:Int))=false:=decide_eq_false (by omega)
      have f3:decide ((C:Int)<0)=false:=decide_eq_false (by omega)
      have f4:decide ((n:Int)≤(C:Int))=false:=decide_eq_false (by omega)
      have f2':¬ ((n:Int)≤(A:Int)):=by omega
      have f4':¬ ((n:Int)≤(C:Int)):=by omega
      have f2n:¬ (n≤A):=by omega
      have f4n:¬ (n≤C):=by omega
      clear hpf hpt hp g1 g2 g3 g4 hst1 hst2
      have hsh:=shl_u32 C hC32
      obtain ⟨pw,hpw⟩:∃ pw,2 ^ C=pw:=⟨_,rfl⟩
      rw [hpw] at hsh
      go_upto_region 16 with fail
      obtain ⟨w5,hw5⟩:∃ W,wr.alloc (.cells #[.int .i64 (A:Int),.int .i64 (C:Int)] 58)=W:=⟨_,rfl⟩
      rw [hw5]
      have HI5:=hid (show NewI w n u (List.replicate 32 0) w5 from by rw [← hw5];exact HI2.out.alloc _)
      have e0:w5.cell? ⟨wr.heap.size,0,none⟩=some (.int .i64 (A:Int)):=by rw [← hw5];exact (BxL.new 58 wr [.int .i64 (A:Int),.int .i64 (C:Int)]).at 0 rfl
      have e1:w5.cell? ⟨wr.heap.size,1,none⟩=some (.int .i64 (C:Int)):=by rw [← hw5];exact (BxL.new 58 wr [.int .i64 (A:Int),.int .i64 (C:Int)]).at 1 rfl
      have c2:=HI5.out.cu hA32
      obtain ⟨X,hX⟩:∃ X,u.getD A 0=X:=⟨_,rfl⟩
      rw [hX] at c2
      have ltX:X<4294967296:=by rw [← hX];exact HI5.out.la.ltu A
      have ltP:pw<4294967296:=by rw [← hpw];exact pow_lt32 hC32
      have ho:=or_u32 X pw ltX ltP
      obtain ⟨V,hV⟩:∃ V,X ||| pw=V:=⟨_,rfl⟩
      rw [hV] at ho
      have ltV:V<4294967296:=by rw [← hV];exact or_lt ltX ltP
      have HX:=hid hX;have HVV:=hid hV;have LTV:=hid ltV;have HPW:=hid hpw
      have hfr:=HI5.out.la.fr (1+A)
      obtain ⟨p9,hp9⟩:∃ p9,wr.heap.size=p9:=⟨_,rfl⟩
      rw [hp9] at e0 e1 ⊢
      clear hX hV ltV ltX ltP hpw hw5 d0 d1 hp9
      have hS:(fun W:World=>W.cell? ⟨p9,0,none⟩=some (.int .i64 (A:Int))∧W.cell? ⟨p9,1,none⟩=some (.int .i64 (C:Int))∧W.cell? ⟨w.heap.size+1,1+A,none⟩=some (.int .u32 (X:Int))) w5.drew:=⟨e0,e1,c2⟩
      have hFa:=fT
      refine rgN (fun W:World=>W.cell? ⟨p9,0,none⟩=some (.int .i64 (A:Int))∧W.cell? ⟨p9,1,none⟩=some (.int .i64 (C:Int))∧W.cell? ⟨w.heap.size+1,1+A,none⟩=some (.int .u32 (X:Int))) 14 (by kernel_rfl) ?_
      simp only [List.size_toArray,List.length_cons,List.length_nil,Nat.reduceAdd]
      iterate 11 (refine wpHJ_nx (v:=?_) 15 rfl rfl (by kernel_rfl) nE hS ?_ ?_;rotate_left;(focus refine Or.inl ⟨by rfl,?_⟩;rintro w' ⟨s0,s1,s2⟩;go_simp;try rfl);simp only [Act.put,actP,actQ])
      iterate 2 (refine wpHJ_np (v:=?_) 15 rfl rfl (by kernel_rfl) nE (.inr hS) ?_ ?_;rotate_left;(focus refine Or.inl ⟨by rfl,?_⟩;rintro w' _;go_simp;try rfl);simp only [Act.put,actP,actQ])
      (refine wpHJ_nx (v:=?_) 15 rfl rfl (by kernel_rfl) nE hS ?_ ?_;rotate_left;(focus refine Or.inl ⟨by rfl,?_⟩;rintro w' ⟨s0,s1,s2⟩;go_simp;try rfl);simp only [Act.put,actP,actQ])
      refine wpHJ_only 14 (by kernel_rfl) rfl (fun K hK=>?_)
      go_simp
      refine hK _ _ (.inl rfl) ?_
      clear hK K
      refine wpHJ_done (by kernel_rfl) ?_ _
      simp only [onlyN,Exit.then]
      clear hFa
      clear hS
      go_wp2_with fail
      go_roundw
      case rel =>
       refine ⟨k+1,by omega,by go_num,_,HST.out,?_⟩
       show NewI w n (u.set (A:Int).toNat (u.getD (A:Int).toNat 0 ||| 2 ^ (C:Int).toNat)) _ _
       rw [Int.toNat_natCast,Int.toNat_natCast,HX.out,HPW.out,HVV.out]
       exact (HI5.out.setU hA32 LTV.out).drew
      case measure=>simp [intOf];omega
     ·rw [Bool.not_eq_true] at hp
      have HNO:=hid (hst2.out hp)
      have hbad:=hpf hp
      clear hpf hpt hp hst1 hst2
      rcases hbad with h1 | ⟨h1,h2⟩ | ⟨h1,h2,h3⟩ | ⟨h1,h2,h3,h4⟩
      ·have f1:decide (x1<0)=true:=decide_eq_true h1
       clear h1
       go_wp2_with fail
       go_ret2
       exact ⟨⟨none,by rw [HE.out,HNO.out];rfl⟩,(HI2.out.alloc _).bel⟩
      ·have f1:decide (x1<0)=false:=decide_eq_false (by omega)
       have f2:decide ((n:Int)≤x1)=true:=decide_eq_true h2
       clear h1 h2
       go_wp2_with fail
       go_ret2
       exact ⟨⟨none,by rw [HE.out,HNO.out];rfl⟩,(HI2.out.alloc _).bel⟩
      ·have f1:decide (x1<0)=false:=decide_eq_false (by omega)
       have f2:decide ((n:Int)≤x1)=false:=decide_eq_false (by omega)
       have f3:decide (x2<0)=true:=decide_eq_true h3
       clear h1 h2 h3
       go_wp2_with fail
       go_ret2
       exact ⟨⟨none,by rw [HE.out,HNO.out];rfl⟩,(HI2.out.alloc _).bel⟩
      ·have f1:decide (x1<0)=false:=decide_eq_false (by omega)
       have f2:decide ((n:Int)≤x1)=false:=decide_eq_false (by omega)
       have f3:decide (x2<0)=false:=decide_eq_false (by omega)
       have f4:decide ((n:Int)≤x2)=true:=decide_eq_true h4
       clear h1 h2 h3 h4
       go_wp2_with fail
       go_ret2
       exact ⟨⟨none,by rw [HE.out,HNO.out];rfl⟩,(HI2.out.alloc _).bel⟩
    ·have eqn:ol=k:=by omega
     subst eqn
     have t5:decide ((ol:Int)<(ol:Int))=false:=decide_eq_false (by omega)
     have HU':=hid (show ordL n od (upsL n)=some u from by have:=HU.out;rw [List.take_of_length_le (by rw [HO.out];omega)] at this;exact this)
     clear HU
     have HU:=HU'
     clear HU'
     obtain ⟨u1,rfl⟩:∃ u1,u1=u:=⟨_,rfl⟩
     go_wp2_with fail
     go_loopw [82] (fun v W=>∃ k:Nat,k≤n∧v = .int .i64 (k:Int)∧NewI w n (closeK n k u1) (List.replicate 32 0) W) (fun v _=>n - (intOf v).toNat)
     case atStart=>exact ⟨0,Nat.zero_le _,rfl,HI2.out⟩
     case round =>
      obtain ⟨k,hk,rfl,hI⟩:=hrel
      have HI3:=hid hI
      have hcn3:=hI.cell
      clear hI
      by_cases hlk:k<n
      ·have t6:decide ((k:Int)<(n:Int))=true:=decide_eq_true (by omega)
       have hk32:(k:Int)<32:=by have:=HN.out;omega
       have hknat:k<32:=by omega
       go_wp2_with fail
       go_loopw [86] (fun v W=>∃ i:Nat,i≤n∧v = .int .i64 (i:Int)∧NewI w n (closeI k i (closeK n k u1)) (List.replicate 32 0) W) (fun v _=>n - (intOf v).toNat)
       case atStart=>exact ⟨0,Nat.zero_le _,rfl,HI3.out⟩
       case round =>
        obtain ⟨i,hi,rfl,hI⟩:=hrel
        have HI5:=hid hI
        clear hI
        by_cases hlt:i<n
        ·have t8:decide ((i:Int)<(n:Int))=true:=decide_eq_true (by omega)
         have hi32:(i:Int)<32:=by have:=HN.out;omega
         have hnat:i<32:=by omega
         obtain ⟨UU,hUU⟩:∃ d,closeI k i (closeK n k u1)=d:=⟨_,rfl⟩
         rw [hUU] at HI5
         have c1:=HI5.out.cu hnat
         have c2:=HI5.out.cu hknat
         obtain ⟨X,hX⟩:∃ X,UU.getD i 0=X:=⟨_,rfl⟩
         obtain ⟨Y,hY⟩:∃ Y,UU.getD k 0=Y:=⟨_,rfl⟩
         rw [hX] at c1
         rw [hY] at c2
         have ltX:X<4294967296:=by rw [← hX];exact HI5.out.la.ltu i
         have ltY:Y<4294967296:=by rw [← hY];exact HI5.out.la.ltu k
         have hb:=shr_bitI X k ltX
         have ho:=or_u32 X Y ltX ltY
         obtain ⟨V,hV⟩:∃ V,X ||| Y=V:=⟨_,rfl⟩
         rw [hV] at ho
         have ltV:V<4294967296:=by rw [← hV];exact or_lt ltX ltY
         have HX:=hid hX;have HY:=hid hY;have HVV:=hid hV;have LTV:=hid ltV;have HD:=hid hUU
         clear hX hY hV ltV ltX ltY hUU
         by_cases hbit:X.testBit k=true
         ·rw [hbit] at hb
          have HBIT:=hid hbit
          clear hbit
          have hfr:=HI5.out.la.fr (1+i)
          go_upto_region 25 with fail
          have hS:(fun W:World=>W.cell? ⟨w.heap.size+1,1+i,none⟩=some (.int .u32 (X:Int))∧W.cell? ⟨w.heap.size+1,1+k,none⟩=some (.int .u32 (Y:Int))) wr.drew:=⟨c1,c2⟩
          have hFa:=fT
          refine rgN (fun W:World=>W.cell? ⟨w.heap.size+1,1+i,none⟩=some (.int .u32 (X:Int))∧W.cell? ⟨w.heap.size+1,1+k,none⟩=some (.int .u32 (Y:Int))) 16 (by kernel_rfl) ?_
          simp only [List.size_toArray,List.length_cons,List.length_nil,Nat.reduceAdd]
          iterate 13 (refine wpHJ_nx (v:=?_) 17 rfl rfl (by kernel_rfl) nE hS ?_ ?_;rotate_left;(focus refine Or.inl ⟨by rfl,?_⟩;rintro w' ⟨s0,s1⟩;go_simp;try rfl);simp only [Act.put,actP,actQ])
          iterate 2 (refine wpHJ_np (v:=?_) 17 rfl rfl (by kernel_rfl) nE (.inr hS) ?_ ?_;rotate_left;(focus refine Or.inl ⟨by rfl,?_⟩;rintro w' _;go_simp;try rfl);simp only [Act.put,actP,actQ])
          (refine wpHJ_nx (v:=?_) 17 rfl rfl (by kernel_rfl) nE hS ?_ ?_;rotate_left;(focus refine Or.inl ⟨by rfl,?_⟩;rintro w' ⟨s0,s1⟩;go_simp;try rfl);simp only [Act.put,actP,actQ])
          refine wpHJ_only 16 (by kernel_rfl) rfl (fun K hK=>?_)
          go_simp
          refine hK _ _ (.inl rfl) ?_
          clear hK K
          refine wpHJ_done (by kernel_rfl) ?_ _
          simp only [onlyN,Exit.then]
          clear hFa
          clear hS
          go_wp2_with fail
          go_roundw
          case rel =>
           refine ⟨i+1,by omega,by go_num,?_⟩
           rw [closeI_next,HD.out]
           unfold closeS
           rw [if_pos (by rw [HX.out];exact HBIT.out),HX.out,HY.out,HVV.out]
           exact (HI5.out.setU hnat LTV.out).drew
          case measure=>simp [intOf];omega
         ·rw [Bool.not_eq_true] at hbit
          rw [hbit] at hb
          have HBIT:=hid hbit
          clear hbit
          go_wp2_with fail
          go_roundw
          case rel =>
           refine ⟨i+1,by omega,by go_num,?_⟩
           rw [closeI_next,HD.out]
           unfold closeS
           rw [if_neg (by rw [HX.out,HBIT.out];simp)]
           exact HI5.out
          case measure=>simp [intOf];omega
        ·have eqn:n=i:=by omega
         subst eqn
         have t8:decide ((n:Int)<(n:Int))=false:=decide_eq_false (by omega)
         go_wp2_with fail
         go_roundw
         case rel =>
          refine ⟨k+1,by omega,by go_num,?_⟩
          rw [closeK_next]
          exact HI5.out
         case measure=>simp [intOf];omega
      ·have eqn:n=k:=by omega
       subst eqn
       have t6:decide ((n:Int)<(n:Int))=false:=decide_eq_false (by omega)
       obtain ⟨U,hUU⟩:∃ U,closeK n n u1=U:=⟨_,rfl⟩
       rw [hUU] at HI3
       have HUU:=hid hUU
       clear hUU
       go_wp2_with fail
       go_loopw [118] (fun v W=>∃ i:Nat,i≤n∧v = .int .i64 (i:Int)∧NewI w n U (downK U n i (List.replicate 32 0)) W) (fun v _=>n - (intOf v).toNat)
       case atStart=>exact ⟨0,Nat.zero_le _,rfl,HI3.out⟩
       case round =>
        obtain ⟨i,hi,rfl,hI⟩:=hrel
        have HI4:=hid hI
        have hcn4:=hI.cell
        clear hI
        by_cases hlt:i<n
        ·have t7:decide ((i:Int)<(n:Int))=true:=decide_eq_true (by omega)
         have hi32:(i:Int)<32:=by have:=HN.out;omega
         have hnat:i<32:=by omega
         have hsh:=shl_u32 i hnat
         obtain ⟨pw,hpw⟩:∃ pw,2 ^ i=pw:=⟨_,rfl⟩
         rw [hpw] at hsh
         have HPW:=hid hpw
         clear hpw
         go_wp2_with fail
         go_loopw [122] (fun v W=>∃ k:Nat,k≤n∧v = .int .i64 (k:Int)∧NewI w n U (downI U i k (downK U n i (List.replicate 32 0))) W) (fun v _=>n - (intOf v).toNat)
         case atStart=>exact ⟨0,Nat.zero_le _,rfl,HI4.out⟩
         case round =>
          obtain ⟨k,hk,rfl,hI⟩:=hrel
          have HI5:=hid hI
          clear hI
          by_cases hlk:k<n
          ·have t8:decide ((k:Int)<(n:Int))=true:=decide_eq_true (by omega)
           have hk32:(k:Int)<32:=by have:=HN.out;omega
           have hknat:k<32:=by omega
           obtain ⟨DD,hDD⟩:∃ d,downI U i k (downK U n i (List.replicate 32 0))=d:=⟨_,rfl⟩
           rw [hDD] at HI5
           have c1:=HI5.out.cu hnat
           have c2:=HI5.out.cd hknat
           obtain ⟨X,hX⟩:∃ X,U.getD i 0=X:=⟨_,rfl⟩
           obtain ⟨Y,hY⟩:∃ Y,DD.getD k 0=Y:=⟨_,rfl⟩
           rw [hX] at c1
           rw [hY] at c2
           have ltX:X<4294967296:=by rw [← hX];exact HI5.out.la.ltu i
           have hb:=shr_bitI X k ltX
           have ho:=or_u32 Y pw (by rw [← hY];exact HI5.out.la.ltd k) (by rw [← HPW.out];exact pow_lt32 hnat)
           obtain ⟨V,hV⟩:∃ V,Y ||| pw=V:=⟨_,rfl⟩
           rw [hV] at ho
           have ltV:V<4294967296:=by rw [← hV];exact or_lt (by rw [← hY];exact HI5.out.la.ltd k) (by rw [← HPW.out];exact pow_lt32 hnat)
           have HX:=hid hX;have HY:=hid hY;have HVV:=hid hV;have LTV:=hid ltV;have HD:=hid hDD
           clear hX hY hV ltV ltX hDD
           by_cases hbit:X.testBit k=true
           ·rw [hbit] at hb
            have HBIT:=hid hbit
            clear hbit
            have hfr:=HI5.out.la.fr (33+k)
            go_upto_region 35 with fail
            have hS:(fun W:World=>W.cell? ⟨w.heap.size+1,33+k,none⟩=some (.int .u32 (Y:Int))) wr.drew:=c2
            have hFa:=fT
            refine rgN (fun W:World=>W.cell? ⟨w.heap.size+1,33+k,none⟩=some (.int .u32 (Y:Int))) 12 (by kernel_rfl) ?_
            simp only [List.size_toArray,List.length_cons,List.length_nil,Nat.reduceAdd]
            iterate 9 (refine wpHJ_nx (v:=?_) 13 rfl rfl (by kernel_rfl) nE hS ?_ ?_;rotate_left;(focus refine Or.inl ⟨by rfl,?_⟩;rintro w' s0;go_simp;try rfl);simp only [Act.put,actP,actQ])
            iterate 2 (refine wpHJ_np (v:=?_) 13 rfl rfl (by kernel_rfl) nE (.inr hS) ?_ ?_;rotate_left;(focus refine Or.inl ⟨by rfl,?_⟩;rintro w' _;go_simp;try rfl);simp only [Act.put,actP,actQ])
            (refine wpHJ_nx (v:=?_) 13 rfl rfl (by kernel_rfl) nE hS ?_ ?_;rotate_left;(focus refine Or.inl ⟨by rfl,?_⟩;rintro w' s0;go_simp;try rfl);simp only [Act.put,actP,actQ])
            refine wpHJ_only 12 (by kernel_rfl) rfl (fun K hK=>?_)
            go_simp
            refine hK _ _ (.inl rfl) ?_
            clear hK K
            refine wpHJ_done (by kernel_rfl) ?_ _
            simp only [onlyN,Exit.then]
            clear hFa
            clear hS
            go_wp2_with fail
            go_roundw
            case rel =>
             refine ⟨k+1,by omega,by go_num,?_⟩
             rw [downI_next,HD.out]
             unfold downS
             rw [if_pos (by rw [HX.out];exact HBIT.out),HY.out,HPW.out,HVV.out]
             exact (HI5.out.setD hknat LTV.out).drew
            case measure=>simp [intOf];omega
           ·rw [Bool.not_eq_true] at hbit
            rw [hbit] at hb
            have HBIT:=hid hbit
            clear hbit
            go_wp2_with fail
            go_roundw
            case rel =>
             refine ⟨k+1,by omega,by go_num,?_⟩
             rw [downI_next,HD.out]
             unfold downS
             rw [if_neg (by rw [HX.out,HBIT.out];simp)]
             exact HI5.out
            case measure=>simp [intOf];omega
          ·have eqn:n=k:=by omega
           subst eqn
           have t8:decide ((n:Int)<(n:Int))=false:=decide_eq_false (by omega)
           go_wp2_with fail
           go_roundw
           case rel =>
            refine ⟨i+1,by omega,by go_num,?_⟩
            rw [downK_next]
            exact HI5.out
           case measure=>simp [intOf];omega
        ·have eqn:n=i:=by omega
         subst eqn
         have t7:decide ((n:Int)<(n:Int))=false:=decide_eq_false (by omega)
         obtain ⟨D,hD⟩:∃ D,downK U n n (List.replicate 32 0)=D:=⟨_,rfl⟩
         rw [hD] at HI4
         have HD:=hid hD
         clear hD
         have HLT:=hid (show latE n od=(if loopyB U D n then 9 else if wholeB U n && wholeB D n then 0 else 4) from by rw [HE.out,HU.out];show latT n (closeK n n u1)=_;unfold latT;rw [HUU.out,HD.out])
         go_wp2_with fail
         go_loopw [150] (fun v W=>∃ i:Nat,i≤n∧v = .int .i64 (i:Int)∧(∀ j,j<i→U.getD j 0 &&& D.getD j 0=2 ^ j)∧NewI w n U D W) (fun v _=>n - (intOf v).toNat)
         case atStart=>exact ⟨0,Nat.zero_le _,rfl,fun j h=>by omega,HI4.out⟩
         case round =>
          obtain ⟨i,hi,rfl,hall,hI⟩:=hrel
          have HI5:=hid hI;have HALL:=hid hall
          clear hI hall
          by_cases hlt:i<n
          ·have t9:decide ((i:Int)<(n:Int))=true:=decide_eq_true (by omega)
           have hi32:(i:Int)<32:=by have:=HN.out;omega
           have hnat:i<32:=by omega
           have hsh:=shl_u32 i hnat
           obtain ⟨pw,hpw⟩:∃ pw,2 ^ i=pw:=⟨_,rfl⟩
           rw [hpw] at hsh
           have HPW:=hid hpw
           clear hpw
           have c1:=HI5.out.cu hnat
           have c2:=HI5.out.cd hnat
           obtain ⟨X,hX⟩:∃ X,U.getD i 0=X:=⟨_,rfl⟩
           obtain ⟨Y,hY⟩:∃ Y,D.getD i 0=Y:=⟨_,rfl⟩
           rw [hX] at c1
           rw [hY] at c2
           have ha:=and_u32 X Y (by rw [← hX];exact HI5.out.la.ltu i) (by rw [← hY];exact HI5.out.la.ltd i)
           obtain ⟨V,hV⟩:∃ V,X &&& Y=V:=⟨_,rfl⟩
           rw [hV] at ha
           have HX:=hid hX;have HY:=hid hY;have HVV:=hid hV
           clear hX hY hV
           go_upto_region 41 with fail
           have hS:(fun W:World=>W.cell? ⟨w.heap.size+1,1+i,none⟩=some (.int .u32 (X:Int))∧W.cell? ⟨w.heap.size+1,33+i,none⟩=some (.int .u32 (Y:Int))) wr.drew:=⟨c1,c2⟩
           have hFa:=fT
           refine rgN (fun W:World=>W.cell? ⟨w.heap.size+1,1+i,none⟩=some (.int .u32 (X:Int))∧W.cell? ⟨w.heap.size+1,33+i,none⟩=some (.int .u32 (Y:Int))) 16 (by kernel_rfl) ?_
           simp only [List.size_toArray,List.length_cons,List.length_nil,Nat.reduceAdd]
           iterate 16 (refine wpHJ_nx (v:=?_) 16 rfl rfl (by kernel_rfl) nE hS ?_ ?_;rotate_left;(focus refine Or.inl ⟨by rfl,?_⟩;rintro w' ⟨s0,s1⟩;go_simp;try rfl);simp only [Act.put,actP,actQ])
           refine wpHJ_done (by kernel_rfl) ?_ _
           simp only [onlyN,Exit.then]
           clear hFa
           clear hS
           by_cases hq:V=pw
           ·have tq:((V:Int) != (pw:Int))=false:=by rw [hq];simp
            go_wp2_with fail
            go_roundw
            case rel =>
             refine ⟨i+1,by omega,by go_num,fun j hj=>?_,HI5.out.drew⟩
             by_cases e:j=i
             ·subst e;rw [HX.out,HY.out,HVV.out,hq,HPW.out]
             ·exact HALL.out j (by omega)
            case measure=>simp [intOf];omega
           ·have tq:((V:Int) != (pw:Int))=true:=by rw [bne_iff_ne];omega
            go_wp2_with fail
            go_ret2
            refine ⟨⟨none,?_⟩,HI5.out.bel.drew⟩
            rw [HLT.out,loopy_true hlt (by rw [HX.out,HY.out,HVV.out,HPW.out];exact hq)]
            rfl
          ·have eqn:n=i:=by omega
           subst eqn
           have t9:decide ((n:Int)<(n:Int))=false:=decide_eq_false (by omega)
           have HW1:=hid (whole_any (w.heap.size+1) 1 w.heap.size n U wr HN.out.2 HI5.out.cell HI5.out.la.setsU (HT.out.keep HI5.out.bel))
           have HW2:=hid (fun m=>whole_any (w.heap.size+1) 33 w.heap.size n D (wr.drewN m) HN.out.2 (HI5.out.drewN m).cell (HI5.out.drewN m).la.setsD (HT.out.keep (HI5.out.drewN m).bel))
           have HLT2:=hid (show latE n od=if wholeB U n && wholeB D n then 0 else 4 from by rw [HLT.out,loopy_false HALL.out];rfl)
           clear HLT
           obtain ⟨bU,hbU⟩:∃ b,wholeB U n=b:=⟨_,rfl⟩
           obtain ⟨bD,hbD⟩:∃ b,wholeB D n=b:=⟨_,rfl⟩
           rw [hbU] at HW1 HLT2
           rw [hbD] at HW2 HLT2
           clear hbU hbD
           cases bU with
           | false =>
            go_wp2_with (go_at_call 25;(with_reducible refine HW1.out.mono ?_);rintro e wa ⟨rfl,m1,rfl⟩)
            go_ret2
            exact ⟨⟨none,by rw [HLT2.out];rfl⟩,(HI5.out.drewN _).bel⟩
           | true =>
            cases bD with
            | false =>
             go_wp2_with (first | (go_at_call 25;(with_reducible refine HW1.out.mono ?_);rintro e wa ⟨rfl,m1,rfl⟩) | (go_at_call 25;(with_reducible refine (HW2.out _).mono ?_);rintro e wb ⟨rfl,m2,rfl⟩))
             go_ret2
             exact ⟨⟨none,by rw [HLT2.out];rfl⟩,(HI5.out.drewN _).bel⟩
            | true =>
             go_wp2_with (first | (go_at_call 25;(with_reducible refine HW1.out.mono ?_);rintro e wa ⟨rfl,m1,rfl⟩) | (go_at_call 25;(with_reducible refine (HW2.out _).mono ?_);rintro e wb ⟨rfl,m2,rfl⟩))
             go_ret2
             exact ⟨⟨_,by rw [HLT2.out];rfl⟩,(HI5.out.drewN _).bel⟩
end Go.Proofs.YtbijamcoibonkaaDoor
