/-
 A part.
-/
import Derived.Test.YtoofbgoeipijcaaGreatDoorVSPrZ2
import Derived.Laws.OwnMore
namespace Go.Proofs.YtoofbgoeipijcaaGreatDoor
set_option maxRecDepth 100000
set_option maxHeartbeats 8000000
set_option linter.all false
open Go.RowKit Go.Shelf
attribute [local go_sem] Oper.semAt_some
structure GF {α:Type} (K:EK α) (B e:Nat) (w:World) (v:Value) (l:List α):Prop where
 row:∃ css,Each K (fun k=>B<=k/\k<w.heap.size/\v.ownBlock ≠ some k) w css l/\w.ownsRow B e K.n v l.length css.flatten
section
variable {α:Type} {K:EK α} {B B' e:Nat} {w w':World} {v v':Value} {l:List α}
theorem Each.weaken {R R':Nat->Prop} {css:List (List Value)} (h:Each K R w css l) (hf:∀ k,R k->R' k):Each K R' w css l:=h.keep fun k hk=>⟨hf k hk,rfl⟩
theorem GF.nil (K:EK α) (B e:Nat) (w:World):GF K B e w (.slice none 0 0) []:=⟨⟨[],Each.nil,World.ownsRow_nil _ _ _ _⟩⟩
theorem GF.ga (h:GF K B e w v l):GA K B e w v l:=let ⟨css,h1,h2⟩:=h.row;⟨⟨css,h1.weaken fun k hk=>hk.2,h2⟩⟩
theorem GF.slc (h:GF K B e w v l):∃ p c,v=.slice p l.length c:=h.ga.slc
theorem GF.lt (h:GF K B e w v l):∀ k,v.ownBlock=some k->B<=k/\k<w.heap.size:=h.ga.lt
theorem GF.base (h:GF K B e w v l) (hB:B'<=B):GF K B' e w v l:=by
 obtain ⟨css,h1,h2⟩:=h.row
 refine ⟨⟨css,h1.weaken fun k hk=>⟨Nat.le_trans hB hk.1,hk.2⟩,h2.1,?_⟩⟩
 rcases h2.2 with h | ⟨g,cap,cur,h3,hb,h4⟩
 ·exact .inl h
 ·exact .inr ⟨g,cap,cur,h3,Nat.le_trans hB hb,h4⟩
theorem GF.keepB (h:GF K B e w v l) (hs:w.heap.size<=w'.heap.size) (hf:∀ k,B<=k->k<w.heap.size->w'.heap[k]?=w.heap[k]?):GF K B e w' v l:=by
 obtain ⟨css,h1,h2⟩:=h.row
 exact ⟨⟨css,h1.keep fun k hk=>⟨⟨hk.1,Nat.lt_of_lt_of_le hk.2.1 hs,hk.2.2⟩,hf k hk.1 hk.2.1⟩,owns_keepG h2 fun j hj=>hf j (h2.lt j hj).1 (h2.lt j hj).2⟩⟩
theorem GF.keep (h:GF K B e w v l) (hb:Below w.heap.size w w'):GF K B e w' v l:=h.keepB hb.size fun k _ hk=>hb.block k hk
theorem GF.sl (h:GF K B e w v l) (hl:l.length<=140737488355328):SlG K (fun k=>B<=k/\k<w.heap.size) w v l:=by
 obtain ⟨css,h1,h2⟩:=h.row
 exact SlG.ofOwn (h1.weaken fun k hk=>⟨hk.1,hk.2.1⟩) h2 hl fun k hk=>h2.lt k hk
theorem GF.push {x:α} {css:List (List Value)} {cs:List Value} {o:Obj} (h:Each K (fun k=>B<=k/\k<w.heap.size/\v.ownBlock ≠ some k) w css l) (hl:∀ k,v.ownBlock=some k->k<w.heap.size)
  (hx:K.E (fun k=>B<=k/\k<w.heap.size/\v.ownBlock ≠ some k) w cs x) (hg:(w.alloc o).grownBy w' v.ownBlock) (ho:w'.ownsRow B e K.n v' (l.length+1) (css.flatten++cs)) (hv:v'.ownBlock=v.ownBlock\/v'.ownBlock=some (w.alloc o).heap.size):GF K B e w' v' (l++[x]):=by
 have hga:=(World.grownBy_alloc w o v.ownBlock).trans hg
 have hn:∀ k,(B<=k/\k<w.heap.size/\v.ownBlock ≠ some k)->(B<=k/\k<w'.heap.size/\v'.ownBlock ≠ some k)/\w'.heap[k]?=w.heap[k]?:=fun k hk=>by
  refine ⟨⟨hk.1,Nat.lt_of_lt_of_le hk.2.1 hga.size,fun e=>?_⟩,hga.block k hk.2.1 fun e=>hk.2.2 e.symm⟩
  rcases hv with e' | e'
  ·exact hk.2.2 (e'.symm.trans e)
  ·rw [e'] at e;rw [sA] at e;cases e;omega
 refine ⟨⟨css++[cs],(h.keep hn).snoc (K.keep hx hn),?_⟩⟩
 rw [List.length_append,List.flatten_append]
 simpa using ho
end
section
variable {P:Program}
end
theorem SlG.cap {α:Type} {K:EK α} {R:Nat->Prop} {w:World} {p:Option Addr} {n c:Nat} {l:List α} (h:SlG K R w (.slice p n c) l):l.length<=c:=by
 obtain ⟨_,_,p',c',e,h1,_⟩:=h
 cases e;exact h1
theorem eqstrs_sameK (l:List Bs) (va vb:Value) (R R':Nat->Prop) (w:World) (ha:SlG kStr R w va l) (hb:SlG kStr R' w vb l) :
  Calls Tryz.prog 55 #[va,vb] w fun e w'=>e=.returned (.bool true)/\∃ n,w.drewN n=w':=by
 obtain ⟨pa,ca,rfl⟩:=ha.slc
 obtain ⟨pb,cb,rfl⟩:=hb.slc
 have HA:=hid ha;have HB:=hid hb
 clear ha hb
 go_enter Tryz.func55,Tryz.ntmps55
 go_wp2
 go_loopw [4,5] (fun rv iv wr=>∃ (k n:Nat),k<=l.length/\rv=.bool false/\iv=.int .i64 k/\wr=w.drewN n) (fun _ iv _=>l.length - (intOf iv).toNat)
 case atStart=>exact ⟨0,0,Nat.zero_le _,rfl,rfl,rfl⟩
 case round =>
  obtain ⟨k,n,hk,rfl,rfl,rfl⟩:=hrel
  by_cases hlt:k<l.length
  ·obtain ⟨b1,o1,rfl,hR1,hc1⟩:=str_at HA.out (by omega:0<l.length)
   obtain ⟨b2,o2,rfl,hR2,hc2⟩:=str_at HB.out (by omega:0<l.length)
   have c0:=hc1 k hlt
   have d0:=hc2 k hlt
   have HLT:=hid hlt
   clear hc1 hc2
   generalize l[k]=x at *
   clear hlt
   have hlt:=HLT.out
   go_wp2_with fail
   go_quiet (fail)
   go_wp2
   go_roundw
   case rel=>exact ⟨k+1,n+nq,HLT.out,by first | rfl | trivial,by rw [wrap_next HLT.out HA.len],by first | rfl | rw [World.drewN_drewN]⟩
   case measure=>exact meas_next HLT.out HA.len
  ·obtain rfl:k=l.length:=by omega
   clear hlt
   go_wp2
   go_ret
   exact ⟨rfl,n,rfl⟩
theorem eqarrs_sameK (l:List Ar) (va vb:Value) (R R':Nat->Prop) (w:World) (ha:SlG kAr R w va l) (hb:SlG kAr R' w vb l) :
  Calls Tryz.prog 56 #[va,vb] w fun e w'=>e=.returned (.bool true)/\∃ n,w.drewN n=w':=by
 obtain ⟨pa,ca,rfl⟩:=ha.slc
 obtain ⟨pb,cb,rfl⟩:=hb.slc
 have HA:=hid ha;have HB:=hid hb
 clear ha hb
 go_enter Tryz.func56,Tryz.ntmps56
 go_wp2
 go_loopw [4,5] (fun rv iv wr=>∃ (k n:Nat),k<=l.length/\rv=.bool false/\iv=.int .i64 k/\wr=w.drewN n) (fun _ iv _=>l.length - (intOf iv).toNat)
 case atStart=>exact ⟨0,0,Nat.zero_le _,rfl,rfl,rfl⟩
 case round =>
  obtain ⟨k,n,hk,rfl,rfl,rfl⟩:=hrel
  by_cases hlt:k<l.length
  ·obtain ⟨b1,o1,rfl,hR1,hc1⟩:=ar_at HA.out (by omega:0<l.length)
   obtain ⟨b2,o2,rfl,hR2,hc2⟩:=ar_at HB.out (by omega:0<l.length)
   obtain ⟨c0,c1⟩:=hc1 k hlt
   obtain ⟨d0,d1⟩:=hc2 k hlt
   have HLT:=hid hlt
   clear hc1 hc2
   generalize l[k]=x at *
   clear hlt
   have hlt:=HLT.out
   go_wp2_with fail
   go_quiet (fail)
   go_wp2
   go_roundw
   case rel=>exact ⟨k+1,n+nq,HLT.out,by first | rfl | trivial,by rw [wrap_next HLT.out HA.len],by first | rfl | rw [World.drewN_drewN]⟩
   case measure=>exact meas_next HLT.out HA.len
  ·obtain rfl:k=l.length:=by omega
   clear hlt
   go_wp2
   go_ret
   exact ⟨rfl,n,rfl⟩
theorem eqinstrs_same (l:List In) (va vb:Value) (w:World) (ha:SlG kIn (·<w.heap.size) w va l) (hb:SlG kIn (·<w.heap.size) w vb l) :
  Calls Tryz.prog 58 #[va,vb] w fun e w'=>e=.returned (.bool true)/\Below w.heap.size w w':=by
 obtain ⟨pa,ca,rfl⟩:=ha.slc
 obtain ⟨pb,cb,rfl⟩:=hb.slc
 have HA:=hid ha;have HB:=hid hb
 clear ha hb
 go_enter Tryz.func58,Tryz.ntmps58
 go_wp2
 go_loopw [4,5] (fun rv iv wr=>∃ k:Nat,k<=l.length/\rv=.bool false/\iv=.int .i64 k/\Below w.heap.size w wr) (fun _ iv _=>l.length - (intOf iv).toNat)
 case atStart=>exact ⟨0,Nat.zero_le _,rfl,rfl,Below.refl _ _⟩
 case round =>
  obtain ⟨k,hk,rfl,rfl,hbr⟩:=hrel
  by_cases hlt:k<l.length
  ·obtain ⟨b1,o1,rfl,hR1,hc1⟩:=in_at HA.out (by omega:0<l.length)
   obtain ⟨b2,o2,rfl,hR2,hc2⟩:=in_at HB.out (by omega:0<l.length)
   obtain ⟨p1,cp1,ha1,e0,e1,e2,e3,e4,e5,e6⟩:=hc1 k hlt
   obtain ⟨p2,cp2,ha2,g0,g1,g2,g3,g4,g5,g6⟩:=hc2 k hlt
   have HBW:=hid (show Below w.heap.size w wr.drew from hbr.trans (Below.refl _ _).drew)
   have q0:wr.drew.cell? ⟨b1,o1+k*7,none⟩=some _:=(HBW.cell (p:=⟨b1,o1+k*7,none⟩) hR1).trans e0
   have q1:wr.drew.cell? ⟨b1,o1+k*7+1,none⟩=some _:=(HBW.cell (p:=⟨b1,o1+k*7+1,none⟩) hR1).trans e1
   have q2:wr.drew.cell? ⟨b1,o1+k*7+2,none⟩=some _:=(HBW.cell (p:=⟨b1,o1+k*7+2,none⟩) hR1).trans e2
   have q3:wr.drew.cell? ⟨b1,o1+k*7+3,none⟩=some _:=(HBW.cell (p:=⟨b1,o1+k*7+3,none⟩) hR1).trans e3
   have q4:wr.drew.cell? ⟨b1,o1+k*7+4,none⟩=some _:=(HBW.cell (p:=⟨b1,o1+k*7+4,none⟩) hR1).trans e4
   have q5:wr.drew.cell? ⟨b1,o1+k*7+5,none⟩=some _:=(HBW.cell (p:=⟨b1,o1+k*7+5,none⟩) hR1).trans e5
   have q6:wr.drew.cell? ⟨b1,o1+k*7+6,none⟩=some _:=(HBW.cell (p:=⟨b1,o1+k*7+6,none⟩) hR1).trans e6
   have t0:wr.drew.cell? ⟨b2,o2+k*7,none⟩=some _:=(HBW.cell (p:=⟨b2,o2+k*7,none⟩) hR2).trans g0
   have t1:wr.drew.cell? ⟨b2,o2+k*7+1,none⟩=some _:=(HBW.cell (p:=⟨b2,o2+k*7+1,none⟩) hR2).trans g1
   have t2:wr.drew.cell? ⟨b2,o2+k*7+2,none⟩=some _:=(HBW.cell (p:=⟨b2,o2+k*7+2,none⟩) hR2).trans g2
   have t3:wr.drew.cell? ⟨b2,o2+k*7+3,none⟩=some _:=(HBW.cell (p:=⟨b2,o2+k*7+3,none⟩) hR2).trans g3
   have t4:wr.drew.cell? ⟨b2,o2+k*7+4,none⟩=some _:=(HBW.cell (p:=⟨b2,o2+k*7+4,none⟩) hR2).trans g4
   have t5:wr.drew.cell? ⟨b2,o2+k*7+5,none⟩=some _:=(HBW.cell (p:=⟨b2,o2+k*7+5,none⟩) hR2).trans g5
   have t6:wr.drew.cell? ⟨b2,o2+k*7+6,none⟩=some _:=(HBW.cell (p:=⟨b2,o2+k*7+6,none⟩) hR2).trans g6
   have HA1:=hid (ha1.below HBW.out);have HA2:=hid (ha2.below HBW.out)
   have HLT:=hid hlt
   clear hc1 hc2 ha1 ha2 hR1 hR2 hbr e0 g0 e1 g1 e2 g2 e3 g3 e4 g4 e5 g5 e6 g6
   generalize l[k]=x at *
   clear hlt
   have hlt:=HLT.out
   go_upto_region 6 with fail
   have hS:(fun W=>W.cell? ⟨b1,o1+k*7,none⟩=some (.int .u8 (x.kind:Int))/\W.cell? ⟨b1,o1+k*7+1,none⟩=some (.int .u8 (x.op:Int))/\W.cell? ⟨b1,o1+k*7+2,none⟩=some (.string ⟨x.dst.toArray⟩)/\W.cell? ⟨b1,o1+k*7+3,none⟩=some (.string ⟨x.nm.toArray⟩)/\W.cell? ⟨b1,o1+k*7+4,none⟩=some (.slice p1 x.args.length cp1)/\W.cell? ⟨b1,o1+k*7+5,none⟩=some (.int .i64 x.pos.1)/\W.cell? ⟨b1,o1+k*7+6,none⟩=some (.int .i64 x.pos.2)/\W.cell? ⟨b2,o2+k*7,none⟩=some (.int .u8 (x.kind:Int))/\W.cell? ⟨b2,o2+k*7+1,none⟩=some (.int .u8 (x.op:Int))/\W.cell? ⟨b2,o2+k*7+2,none⟩=some (.string ⟨x.dst.toArray⟩)/\W.cell? ⟨b2,o2+k*7+3,none⟩=some (.string ⟨x.nm.toArray⟩)/\W.cell? ⟨b2,o2+k*7+4,none⟩=some (.slice p2 x.args.length cp2)/\W.cell? ⟨b2,o2+k*7+5,none⟩=some (.int .i64 x.pos.1)/\W.cell? ⟨b2,o2+k*7+6,none⟩=some (.int .i64 x.pos.2)) wr.drew:=⟨q0,q1,q2,q3,q4,q5,q6,t0,t1,t2,t3,t4,t5,t6⟩
   clear q0 t0 q1 t1 q2 t2 q3 t3 q4 t4 q5 t5 q6 t6
   have hFa:=fT
   refine rgN (fun W=>W.cell? ⟨b1,o1+k*7,none⟩=some (.int .u8 (x.kind:Int))/\W.cell? ⟨b1,o1+k*7+1,none⟩=some (.int .u8 (x.op:Int))/\W.cell? ⟨b1,o1+k*7+2,none⟩=some (.string ⟨x.dst.toArray⟩)/\W.cell? ⟨b1,o1+k*7+3,none⟩=some (.string ⟨x.nm.toArray⟩)/\W.cell? ⟨b1,o1+k*7+4,none⟩=some (.slice p1 x.args.length cp1)/\W.cell? ⟨b1,o1+k*7+5,none⟩=some (.int .i64 x.pos.1)/\W.cell? ⟨b1,o1+k*7+6,none⟩=some (.int .i64 x.pos.2)/\W.cell? ⟨b2,o2+k*7,none⟩=some (.int .u8 (x.kind:Int))/\W.cell? ⟨b2,o2+k*7+1,none⟩=some (.int .u8 (x.op:Int))/\W.cell? ⟨b2,o2+k*7+2,none⟩=some (.string ⟨x.dst.toArray⟩)/\W.cell? ⟨b2,o2+k*7+3,none⟩=some (.string ⟨x.nm.toArray⟩)/\W.cell? ⟨b2,o2+k*7+4,none⟩=some (.slice p2 x.args.length cp2)/\W.cell? ⟨b2,o2+k*7+5,none⟩=some (.int .i64 x.pos.1)/\W.cell? ⟨b2,o2+k*7+6,none⟩=some (.int .i64 x.pos.2)) 8 (by kernel_rfl) ?_
   simp only [zP,Nat.reduceAdd]
   iterate 3 (refine npW (v:=?_) 10 (.inr hS) ?_ ?_;rotate_left;(focus intro w' _;go_simp;try rfl);simp only [aP])
   refine wpHJ_take (v:=?v0) 3 hFa rfl (by kernel_rfl) nE (Or.inl ⟨by rfl,?y0⟩) hS ?r0
   case y0=>(rintro w' ⟨s0,s1,s2,s3,s4,s5,s6,s7,s8,s9,s10,s11,s12,s13⟩;go_simp;try rfl)
   simp only [aP]
   iterate 3 (refine npW (v:=?_) 10 (.inr hS) ?_ ?_;rotate_left;(focus intro w' _;go_simp;try rfl);simp only [aP])
   refine wpHJ_take (v:=?v1) 7 hFa rfl (by kernel_rfl) nE (Or.inl ⟨by rfl,?y1⟩) hS ?r1
   case y1=>(rintro w' ⟨s0,s1,s2,s3,s4,s5,s6,s7,s8,s9,s10,s11,s12,s13⟩;go_simp;try rfl)
   simp only [aP]
   refine oy 8 fun K hK=>?_
   go_simp
   (refine (callsIn_wide.2 (eqinstr_same x _ _ _ HA1.out HA2.out)).mono ?_)
   rintro e w5 ⟨rfl,hb⟩
   have HB5:=hid (HBW.trans (hb.mono HBW.size))
   clear hb
   refine hK _ _ (.inl rfl) ?_
   clear hK K
   refine wpHJ_pure (v:=?v2) 9 hFa rfl (by kernel_rfl) nE (Or.inl ⟨by rfl,?y2⟩) (.inl rfl) ?r2
   case y2=>(intro w' _;go_simp;try rfl)
   simp only [aP]
   refine wpHJ_done (by kernel_rfl) ?_ _
   simp only [onlyN,Exit.then]
   clear hFa
   clear hS
   go_wp2_with fail
   go_roundw
   case rel=>exact ⟨k+1,HLT.out,by first | rfl | trivial,by first | (rw [wrap_next HLT.out HA.len]) | rfl,HB5.out⟩
   case measure=>first | exact meas_next HLT.out HA.len | (have h1:=HLT.out;simp [intOf];omega)
  ·obtain rfl:k=l.length:=by omega
   clear hlt
   have HBR:=hid hbr
   clear hbr
   go_wp2
   go_ret
   exact ⟨rfl,HBR.out⟩
theorem eqfunc_same (x:Fu) (va ua vb ub:Value) (w:World) (hpa:SlG kStr (·<w.heap.size) w va x.params) (hca:SlG kIn (·<w.heap.size) w ua x.code) (hpb:SlG kStr (·<w.heap.size) w vb x.params) (hcb:SlG kIn (·<w.heap.size) w ub x.code) :
  Calls Tryz.prog 94 #[.agg #[.string ⟨x.nm.toArray⟩,va,ua,.int .i64 x.pos.1,.int .i64 x.pos.2],.agg #[.string ⟨x.nm.toArray⟩,vb,ub,.int .i64 x.pos.1,.int .i64 x.pos.2]] w fun e w'=>e=.returned (.bool true)/\Below w.heap.size w w':=by
 obtain ⟨pa,ca,rfl⟩:=hpa.slc
 obtain ⟨qa,da,rfl⟩:=hca.slc
 obtain ⟨pb,cb,rfl⟩:=hpb.slc
 obtain ⟨qb,db,rfl⟩:=hcb.slc
 have HPA:=hid hpa;have HCA:=hid hca;have HPB:=hid hpb;have HCB:=hid hcb
 clear hpa hca hpb hcb
 go_enter Tryz.func94,Tryz.ntmps94
 go_upto_region 1 with fail
 obtain ⟨w2,hw2⟩:∃ W,(w.alloc (.cells #[.string ⟨x.nm.toArray⟩,.slice pa x.params.length ca,.slice qa x.code.length da,.int .i64 x.pos.1,.int .i64 x.pos.2] 74)).alloc (.cells #[.string ⟨x.nm.toArray⟩,.slice pb x.params.length cb,.slice qb x.code.length db,.int .i64 x.pos.1,.int .i64 x.pos.2] 74)=W:=⟨_,rfl⟩
 have HB2:=hid (show Below w.heap.size w w2 from by rw [<- hw2];exact (bA).alloc (by rw [sA];omega) _)
 have HX:=hid (show BxL 74 w.heap.size [.string ⟨x.nm.toArray⟩,.slice pa x.params.length ca,.slice qa x.code.length da,.int .i64 x.pos.1,.int .i64 x.pos.2] w2 from by rw [<- hw2];exact (BxL.new _ _ _).al _)
 have HY:=hid (show BxL 74 (w.heap.size+1) [.string ⟨x.nm.toArray⟩,.slice pb x.params.length cb,.slice qb x.code.length db,.int .i64 x.pos.1,.int .i64 x.pos.2] w2 from by rw [<- hw2];have:=BxL.new 74 (w.alloc (.cells #[.string ⟨x.nm.toArray⟩,.slice pa x.params.length ca,.slice qa x.code.length da,.int .i64 x.pos.1,.int .i64 x.pos.2] 74)) [.string ⟨x.nm.toArray⟩,.slice pb x.params.length cb,.slice qb x.code.length db,.int .i64 x.pos.1,.int .i64 x.pos.2];rw [sA] at this;exact this)
 rw [hw2]
 clear hw2
 have p0:w2.cell? ⟨w.heap.size,0,none⟩=some (.string ⟨x.nm.toArray⟩):=HX.at 0 rfl
 have q0:w2.cell? ⟨w.heap.size+1,0,none⟩=some (.string ⟨x.nm.toArray⟩):=HY.at 0 rfl
 have p1:w2.cell? ⟨w.heap.size,1,none⟩=some (.slice pa x.params.length ca):=HX.at 1 rfl
 have q1:w2.cell? ⟨w.heap.size+1,1,none⟩=some (.slice pb x.params.length cb):=HY.at 1 rfl
 have p2:w2.cell? ⟨w.heap.size,2,none⟩=some (.slice qa x.code.length da):=HX.at 2 rfl
 have q2:w2.cell? ⟨w.heap.size+1,2,none⟩=some (.slice qb x.code.length db):=HY.at 2 rfl
 have p3:w2.cell? ⟨w.heap.size,3,none⟩=some (.int .i64 x.pos.1):=HX.at 3 rfl
 have q3:w2.cell? ⟨w.heap.size+1,3,none⟩=some (.int .i64 x.pos.1):=HY.at 3 rfl
 have p4:w2.cell? ⟨w.heap.size,4,none⟩=some (.int .i64 x.pos.2):=HX.at 4 rfl
 have q4:w2.cell? ⟨w.heap.size+1,4,none⟩=some (.int .i64 x.pos.2):=HY.at 4 rfl
 go_wp2_with (first
  | (go_at_call 55;(refine (eqstrs_sameK x.params _ _ _ _ _ (HPA.out.below HB2.out) (HPB.out.below HB2.out)).mono ?_);rintro e w3 ⟨rfl,n3,hw3⟩;have hb3:Below w2.heap.size w2 w3:=(by rw [<- hw3];exact below_drewN w2 n3);have HB3:=hid (HB2.out.trans (hb3.mono HB2.out.size));have HX3:=hid (HX.out.bel hb3);have HY3:=hid (HY.out.bel hb3);clear hw3 hb3 p0 q0 p1 q1 p2 q2 p3 q3 p4 q4;have p0:w3.cell? ⟨w.heap.size,0,none⟩=some (.string ⟨x.nm.toArray⟩):=HX3.out.at 0 rfl;have q0:w3.cell? ⟨w.heap.size+1,0,none⟩=some (.string ⟨x.nm.toArray⟩):=HY3.out.at 0 rfl;have p1:w3.cell? ⟨w.heap.size,1,none⟩=some (.slice pa x.params.length ca):=HX3.out.at 1 rfl;have q1:w3.cell? ⟨w.heap.size+1,1,none⟩=some (.slice pb x.params.length cb):=HY3.out.at 1 rfl;have p2:w3.cell? ⟨w.heap.size,2,none⟩=some (.slice qa x.code.length da):=HX3.out.at 2 rfl;have q2:w3.cell? ⟨w.heap.size+1,2,none⟩=some (.slice qb x.code.length db):=HY3.out.at 2 rfl;have p3:w3.cell? ⟨w.heap.size,3,none⟩=some (.int .i64 x.pos.1):=HX3.out.at 3 rfl;have q3:w3.cell? ⟨w.heap.size+1,3,none⟩=some (.int .i64 x.pos.1):=HY3.out.at 3 rfl;have p4:w3.cell? ⟨w.heap.size,4,none⟩=some (.int .i64 x.pos.2):=HX3.out.at 4 rfl;have q4:w3.cell? ⟨w.heap.size+1,4,none⟩=some (.int .i64 x.pos.2):=HY3.out.at 4 rfl)
  | (go_at_call 58;(refine (eqinstrs_same x.code _ _ _ (HCA.out.below HB3.out) (HCB.out.below HB3.out)).mono ?_);rintro e w4 ⟨rfl,hb4⟩;have HB4:=hid (HB3.out.trans (hb4.mono HB3.out.size));have HX4:=hid (HX3.out.bel hb4);have HY4:=hid (HY3.out.bel hb4);clear hb4 p0 q0 p1 q1 p2 q2 p3 q3 p4 q4;have p0:w4.cell? ⟨w.heap.size,0,none⟩=some (.string ⟨x.nm.toArray⟩):=HX4.out.at 0 rfl;have q0:w4.cell? ⟨w.heap.size+1,0,none⟩=some (.string ⟨x.nm.toArray⟩):=HY4.out.at 0 rfl;have p1:w4.cell? ⟨w.heap.size,1,none⟩=some (.slice pa x.params.length ca):=HX4.out.at 1 rfl;have q1:w4.cell? ⟨w.heap.size+1,1,none⟩=some (.slice pb x.params.length cb):=HY4.out.at 1 rfl;have p2:w4.cell? ⟨w.heap.size,2,none⟩=some (.slice qa x.code.length da):=HX4.out.at 2 rfl;have q2:w4.cell? ⟨w.heap.size+1,2,none⟩=some (.slice qb x.code.length db):=HY4.out.at 2 rfl;have p3:w4.cell? ⟨w.heap.size,3,none⟩=some (.int .i64 x.pos.1):=HX4.out.at 3 rfl;have q3:w4.cell? ⟨w.heap.size+1,3,none⟩=some (.int .i64 x.pos.1):=HY4.out.at 3 rfl;have p4:w4.cell? ⟨w.heap.size,4,none⟩=some (.int .i64 x.pos.2):=HX4.out.at 4 rfl;have q4:w4.cell? ⟨w.heap.size+1,4,none⟩=some (.int .i64 x.pos.2):=HY4.out.at 4 rfl))
 go_ret
 exact ⟨rfl,HB4.out⟩
theorem eqfuncs_same (l:List Fu) (va vb:Value) (w:World) (ha:SlG kFu (·<w.heap.size) w va l) (hb:SlG kFu (·<w.heap.size) w vb l) :
  Calls Tryz.prog 57 #[va,vb] w fun e w'=>e=.returned (.bool true)/\Below w.heap.size w w':=by
 obtain ⟨pa,ca,rfl⟩:=ha.slc
 obtain ⟨pb,cb,rfl⟩:=hb.slc
 have HA:=hid ha;have HB:=hid hb
 clear ha hb
 go_enter Tryz.func57,Tryz.ntmps57
 go_wp2
 go_loopw [4,5] (fun rv iv wr=>∃ k:Nat,k<=l.length/\rv=.bool false/\iv=.int .i64 k/\Below w.heap.size w wr) (fun _ iv _=>l.length - (intOf iv).toNat)
 case atStart=>exact ⟨0,Nat.zero_le _,rfl,rfl,Below.refl _ _⟩
 case round =>
  obtain ⟨k,hk,rfl,rfl,hbr⟩:=hrel
  by_cases hlt:k<l.length
  ·obtain ⟨b1,o1,rfl,hR1,hc1⟩:=fu_at HA.out (by omega:0<l.length)
   obtain ⟨b2,o2,rfl,hR2,hc2⟩:=fu_at HB.out (by omega:0<l.length)
   obtain ⟨p1,cp1,m1,cm1,ha1,hm1,e0,e1,e2,e3,e4⟩:=hc1 k hlt
   obtain ⟨p2,cp2,m2,cm2,ha2,hm2,g0,g1,g2,g3,g4⟩:=hc2 k hlt
   have HBW:=hid (show Below w.heap.size w wr.drew from hbr.trans (Below.refl _ _).drew)
   have q0:wr.drew.cell? ⟨b1,o1+k*5,none⟩=some _:=(HBW.cell (p:=⟨b1,o1+k*5,none⟩) hR1).trans e0
   have q1:wr.drew.cell? ⟨b1,o1+k*5+1,none⟩=some _:=(HBW.cell (p:=⟨b1,o1+k*5+1,none⟩) hR1).trans e1
   have q2:wr.drew.cell? ⟨b1,o1+k*5+2,none⟩=some _:=(HBW.cell (p:=⟨b1,o1+k*5+2,none⟩) hR1).trans e2
   have q3:wr.drew.cell? ⟨b1,o1+k*5+3,none⟩=some _:=(HBW.cell (p:=⟨b1,o1+k*5+3,none⟩) hR1).trans e3
   have q4:wr.drew.cell? ⟨b1,o1+k*5+4,none⟩=some _:=(HBW.cell (p:=⟨b1,o1+k*5+4,none⟩) hR1).trans e4
   have t0:wr.drew.cell? ⟨b2,o2+k*5,none⟩=some _:=(HBW.cell (p:=⟨b2,o2+k*5,none⟩) hR2).trans g0
   have t1:wr.drew.cell? ⟨b2,o2+k*5+1,none⟩=some _:=(HBW.cell (p:=⟨b2,o2+k*5+1,none⟩) hR2).trans g1
   have t2:wr.drew.cell? ⟨b2,o2+k*5+2,none⟩=some _:=(HBW.cell (p:=⟨b2,o2+k*5+2,none⟩) hR2).trans g2
   have t3:wr.drew.cell? ⟨b2,o2+k*5+3,none⟩=some _:=(HBW.cell (p:=⟨b2,o2+k*5+3,none⟩) hR2).trans g3
   have t4:wr.drew.cell? ⟨b2,o2+k*5+4,none⟩=some _:=(HBW.cell (p:=⟨b2,o2+k*5+4,none⟩) hR2).trans g4
   have HA1:=hid (ha1.below HBW.out);have HA2:=hid (ha2.below HBW.out);have HM1:=hid (hm1.below HBW.out);have HM2:=hid (hm2.below HBW.out)
   have HLT:=hid hlt
   clear hc1 hc2 ha1 ha2 hm1 hm2 hR1 hR2 hbr e0 g0 e1 g1 e2 g2 e3 g3 e4 g4
   generalize l[k]=x at *
   clear hlt
   have hlt:=HLT.out
   go_upto_region 6 with fail
   have hS:(fun W=>W.cell? ⟨b1,o1+k*5,none⟩=some (.string ⟨x.nm.toArray⟩)/\W.cell? ⟨b1,o1+k*5+1,none⟩=some (.slice p1 x.params.length cp1)/\W.cell? ⟨b1,o1+k*5+2,none⟩=some (.slice m1 x.code.length cm1)/\W.cell? ⟨b1,o1+k*5+3,none⟩=some (.int .i64 x.pos.1)/\W.cell? ⟨b1,o1+k*5+4,none⟩=some (.int .i64 x.pos.2)/\W.cell? ⟨b2,o2+k*5,none⟩=some (.string ⟨x.nm.toArray⟩)/\W.cell? ⟨b2,o2+k*5+1,none⟩=some (.slice p2 x.params.length cp2)/\W.cell? ⟨b2,o2+k*5+2,none⟩=some (.slice m2 x.code.length cm2)/\W.cell? ⟨b2,o2+k*5+3,none⟩=some (.int .i64 x.pos.1)/\W.cell? ⟨b2,o2+k*5+4,none⟩=some (.int .i64 x.pos.2)) wr.drew:=⟨q0,q1,q2,q3,q4,t0,t1,t2,t3,t4⟩
   clear q0 t0 q1 t1 q2 t2 q3 t3 q4 t4
   have hFa:=fT
   refine rgN (fun W=>W.cell? ⟨b1,o1+k*5,none⟩=some (.string ⟨x.nm.toArray⟩)/\W.cell? ⟨b1,o1+k*5+1,none⟩=some (.slice p1 x.params.length cp1)/\W.cell? ⟨b1,o1+k*5+2,none⟩=some (.slice m1 x.code.length cm1)/\W.cell? ⟨b1,o1+k*5+3,none⟩=some (.int .i64 x.pos.1)/\W.cell? ⟨b1,o1+k*5+4,none⟩=some (.int .i64 x.pos.2)/\W.cell? ⟨b2,o2+k*5,none⟩=some (.string ⟨x.nm.toArray⟩)/\W.cell? ⟨b2,o2+k*5+1,none⟩=some (.slice p2 x.params.length cp2)/\W.cell? ⟨b2,o2+k*5+2,none⟩=some (.slice m2 x.code.length cm2)/\W.cell? ⟨b2,o2+k*5+3,none⟩=some (.int .i64 x.pos.1)/\W.cell? ⟨b2,o2+k*5+4,none⟩=some (.int .i64 x.pos.2)) 8 (by kernel_rfl) ?_
   simp only [zP,Nat.reduceAdd]
   iterate 3 (refine npW (v:=?_) 10 (.inr hS) ?_ ?_;rotate_left;(focus intro w' _;go_simp;try rfl);simp only [aP])
   refine wpHJ_take (v:=?v0) 3 hFa rfl (by kernel_rfl) nE (Or.inl ⟨by rfl,?y0⟩) hS ?r0
   case y0=>(rintro w' ⟨s0,s1,s2,s3,s4,s5,s6,s7,s8,s9⟩;go_simp;try rfl)
   simp only [aP]
   iterate 3 (refine npW (v:=?_) 10 (.inr hS) ?_ ?_;rotate_left;(focus intro w' _;go_simp;try rfl);simp only [aP])
   refine wpHJ_take (v:=?v1) 7 hFa rfl (by kernel_rfl) nE (Or.inl ⟨by rfl,?y1⟩) hS ?r1
   case y1=>(rintro w' ⟨s0,s1,s2,s3,s4,s5,s6,s7,s8,s9⟩;go_simp;try rfl)
   simp only [aP]
   refine oy 8 fun K hK=>?_
   go_simp
   (refine (callsIn_wide.2 (eqfunc_same x _ _ _ _ _ HA1.out HM1.out HA2.out HM2.out)).mono ?_)
   rintro e w5 ⟨rfl,hb⟩
   have HB5:=hid (HBW.trans (hb.mono HBW.size))
   clear hb
   refine hK _ _ (.inl rfl) ?_
   clear hK K
   refine wpHJ_pure (v:=?v2) 9 hFa rfl (by kernel_rfl) nE (Or.inl ⟨by rfl,?y2⟩) (.inl rfl) ?r2
   case y2=>(intro w' _;go_simp;try rfl)
   simp only [aP]
   refine wpHJ_done (by kernel_rfl) ?_ _
   simp only [onlyN,Exit.then]
   clear hFa
   clear hS
   go_wp2_with fail
   go_roundw
   case rel=>exact ⟨k+1,HLT.out,by first | rfl | trivial,by first | (rw [wrap_next HLT.out HA.len]) | rfl,HB5.out⟩
   case measure=>first | exact meas_next HLT.out HA.len | (have h1:=HLT.out;simp [intOf];omega)
  ·obtain rfl:k=l.length:=by omega
   clear hlt
   have HBR:=hid hbr
   clear hbr
   go_wp2
   go_ret
   exact ⟨rfl,HBR.out⟩
theorem eqprog_same (p:Pg) (va vb vc vd ua ub uc ud:Value) (w:World) (hp:PgV (·<w.heap.size) w va vb vc vd p) (hr:PgV (·<w.heap.size) w ua ub uc ud p) :
  Calls Tryz.prog 16 #[.agg #[.int .i64 p.width,va,vb,vc,vd],.agg #[.int .i64 p.width,ua,ub,uc,ud]] w fun e w'=>e=.returned (.bool true)/\Below w.heap.size w w':=by
 obtain ⟨aa,ma,h1⟩:=hp.1.slc
 obtain ⟨ab,mb,h2⟩:=hp.2.1.slc
 obtain ⟨ac,mc,h3⟩:=hp.2.2.1.slc
 obtain ⟨ad,md,h4⟩:=hp.2.2.2.slc
 obtain ⟨ba,na,h5⟩:=hr.1.slc
 obtain ⟨bb,nb,h6⟩:=hr.2.1.slc
 obtain ⟨bc,nc,h7⟩:=hr.2.2.1.slc
 obtain ⟨bd,nd,h8⟩:=hr.2.2.2.slc
 subst h1 h2 h3 h4 h5 h6 h7 h8
 have HP:=hid hp;have HR:=hid hr
 clear hp hr
 go_enter Tryz.func16,Tryz.ntmps16
 go_upto_region 1 with fail
 obtain ⟨w2,hw2⟩:∃ W,(w.alloc (.cells #[.int .i64 p.width,.slice aa p.chans.length ma,.slice ab p.arrays.length mb,.slice ac p.funcs.length mc,.slice ad p.main.length md] 27)).alloc (.cells #[.int .i64 p.width,.slice ba p.chans.length na,.slice bb p.arrays.length nb,.slice bc p.funcs.length nc,.slice bd p.main.length nd] 27)=W:=⟨_,rfl⟩
 have HB1:=hid (show Below w.heap.size w w2 from by rw [<- hw2];exact (bA).alloc (by rw [sA];omega) _)
 have HX1:=hid (show BxL 27 w.heap.size [.int .i64 p.width,.slice aa p.chans.length ma,.slice ab p.arrays.length mb,.slice ac p.funcs.length mc,.slice ad p.main.length md] w2 from by rw [<- hw2];exact (BxL.new _ _ _).al _)
 have HY1:=hid (show BxL 27 (w.heap.size+1) [.int .i64 p.width,.slice ba p.chans.length na,.slice bb p.arrays.length nb,.slice bc p.funcs.length nc,.slice bd p.main.length nd] w2 from by rw [<- hw2];have:=BxL.new 27 (w.alloc (.cells #[.int .i64 p.width,.slice aa p.chans.length ma,.slice ab p.arrays.length mb,.slice ac p.funcs.length mc,.slice ad p.main.length md] 27)) [.int .i64 p.width,.slice ba p.chans.length na,.slice bb p.arrays.length nb,.slice bc p.funcs.length nc,.slice bd p.main.length nd];rw [sA] at this;exact this)
 have HP1:=hid (HP.below HB1.out);have HR1:=hid (HR.below HB1.out)
 rw [hw2]
 clear hw2
 have p0:w2.cell? ⟨w.heap.size,0,none⟩=some (.int .i64 p.width):=HX1.at 0 rfl
 have q0:w2.cell? ⟨w.heap.size+1,0,none⟩=some (.int .i64 p.width):=HY1.at 0 rfl
 have p1:w2.cell? ⟨w.heap.size,1,none⟩=some (.slice aa p.chans.length ma):=HX1.at 1 rfl
 have q1:w2.cell? ⟨w.heap.size+1,1,none⟩=some (.slice ba p.chans.length na):=HY1.at 1 rfl
 have p2:w2.cell? ⟨w.heap.size,2,none⟩=some (.slice ab p.arrays.length mb):=HX1.at 2 rfl
 have q2:w2.cell? ⟨w.heap.size+1,2,none⟩=some (.slice bb p.arrays.length nb):=HY1.at 2 rfl
 have p3:w2.cell? ⟨w.heap.size,3,none⟩=some (.slice ac p.funcs.length mc):=HX1.at 3 rfl
 have q3:w2.cell? ⟨w.heap.size+1,3,none⟩=some (.slice bc p.funcs.length nc):=HY1.at 3 rfl
 have p4:w2.cell? ⟨w.heap.size,4,none⟩=some (.slice ad p.main.length md):=HX1.at 4 rfl
 have q4:w2.cell? ⟨w.heap.size+1,4,none⟩=some (.slice bd p.main.length nd):=HY1.at 4 rfl
 go_wp2_with (first
  | (go_at_call 55;(refine (eqstrs_sameK p.chans _ _ _ _ _ (HP1.out.1) (HR1.out.1)).mono ?_);rintro e w3 ⟨rfl,nn,hww⟩;have hb:Below w2.heap.size w2 w3:=(by rw [<- hww];exact below_drewN w2 nn);clear hww;have HB2:=hid (HB1.out.trans (hb.mono HB1.out.size));have HX2:=hid (HX1.out.bel hb);have HY2:=hid (HY1.out.bel hb);have HP2:=hid (HP1.out.below hb);have HR2:=hid (HR1.out.below hb);clear hb p0 q0 p1 q1 p2 q2 p3 q3 p4 q4;have p0:w3.cell? ⟨w.heap.size,0,none⟩=some (.int .i64 p.width):=HX2.out.at 0 rfl;have q0:w3.cell? ⟨w.heap.size+1,0,none⟩=some (.int .i64 p.width):=HY2.out.at 0 rfl;have p1:w3.cell? ⟨w.heap.size,1,none⟩=some (.slice aa p.chans.length ma):=HX2.out.at 1 rfl;have q1:w3.cell? ⟨w.heap.size+1,1,none⟩=some (.slice ba p.chans.length na):=HY2.out.at 1 rfl;have p2:w3.cell? ⟨w.heap.size,2,none⟩=some (.slice ab p.arrays.length mb):=HX2.out.at 2 rfl;have q2:w3.cell? ⟨w.heap.size+1,2,none⟩=some (.slice bb p.arrays.length nb):=HY2.out.at 2 rfl;have p3:w3.cell? ⟨w.heap.size,3,none⟩=some (.slice ac p.funcs.length mc):=HX2.out.at 3 rfl;have q3:w3.cell? ⟨w.heap.size+1,3,none⟩=some (.slice bc p.funcs.length nc):=HY2.out.at 3 rfl;have p4:w3.cell? ⟨w.heap.size,4,none⟩=some (.slice ad p.main.length md):=HX2.out.at 4 rfl;have q4:w3.cell? ⟨w.heap.size+1,4,none⟩=some (.slice bd p.main.length nd):=HY2.out.at 4 rfl)
  | (go_at_call 56;(refine (eqarrs_sameK p.arrays _ _ _ _ _ (HP2.out.2.1) (HR2.out.2.1)).mono ?_);rintro e w4 ⟨rfl,nn,hww⟩;have hb:Below w3.heap.size w3 w4:=(by rw [<- hww];exact below_drewN w3 nn);clear hww;have HB3:=hid (HB2.out.trans (hb.mono HB2.out.size));have HX3:=hid (HX2.out.bel hb);have HY3:=hid (HY2.out.bel hb);have HP3:=hid (HP2.out.below hb);have HR3:=hid (HR2.out.below hb);clear hb p0 q0 p1 q1 p2 q2 p3 q3 p4 q4;have p0:w4.cell? ⟨w.heap.size,0,none⟩=some (.int .i64 p.width):=HX3.out.at 0 rfl;have q0:w4.cell? ⟨w.heap.size+1,0,none⟩=some (.int .i64 p.width):=HY3.out.at 0 rfl;have p1:w4.cell? ⟨w.heap.size,1,none⟩=some (.slice aa p.chans.length ma):=HX3.out.at 1 rfl;have q1:w4.cell? ⟨w.heap.size+1,1,none⟩=some (.slice ba p.chans.length na):=HY3.out.at 1 rfl;have p2:w4.cell? ⟨w.heap.size,2,none⟩=some (.slice ab p.arrays.length mb):=HX3.out.at 2 rfl;have q2:w4.cell? ⟨w.heap.size+1,2,none⟩=some (.slice bb p.arrays.length nb):=HY3.out.at 2 rfl;have p3:w4.cell? ⟨w.heap.size,3,none⟩=some (.slice ac p.funcs.length mc):=HX3.out.at 3 rfl;have q3:w4.cell? ⟨w.heap.size+1,3,none⟩=some (.slice bc p.funcs.length nc):=HY3.out.at 3 rfl;have p4:w4.cell? ⟨w.heap.size,4,none⟩=some (.slice ad p.main.length md):=HX3.out.at 4 rfl;have q4:w4.cell? ⟨w.heap.size+1,4,none⟩=some (.slice bd p.main.length nd):=HY3.out.at 4 rfl)
  | (go_at_call 57;(refine (eqfuncs_same p.funcs _ _ _ (HP3.out.2.2.1) (HR3.out.2.2.1)).mono ?_);rintro e w5 ⟨rfl,hb⟩;have HB4:=hid (HB3.out.trans (hb.mono HB3.out.size));have HX4:=hid (HX3.out.bel hb);have HY4:=hid (HY3.out.bel hb);have HP4:=hid (HP3.out.below hb);have HR4:=hid (HR3.out.below hb);clear hb p0 q0 p1 q1 p2 q2 p3 q3 p4 q4;have p0:w5.cell? ⟨w.heap.size,0,none⟩=some (.int .i64 p.width):=HX4.out.at 0 rfl;have q0:w5.cell? ⟨w.heap.size+1,0,none⟩=some (.int .i64 p.width):=HY4.out.at 0 rfl;have p1:w5.cell? ⟨w.heap.size,1,none⟩=some (.slice aa p.chans.length ma):=HX4.out.at 1 rfl;have q1:w5.cell? ⟨w.heap.size+1,1,none⟩=some (.slice ba p.chans.length na):=HY4.out.at 1 rfl;have p2:w5.cell? ⟨w.heap.size,2,none⟩=some (.slice ab p.arrays.length mb):=HX4.out.at 2 rfl;have q2:w5.cell? ⟨w.heap.size+1,2,none⟩=some (.slice bb p.arrays.length nb):=HY4.out.at 2 rfl;have p3:w5.cell? ⟨w.heap.size,3,none⟩=some (.slice ac p.funcs.length mc):=HX4.out.at 3 rfl;have q3:w5.cell? ⟨w.heap.size+1,3,none⟩=some (.slice bc p.funcs.length nc):=HY4.out.at 3 rfl;have p4:w5.cell? ⟨w.heap.size,4,none⟩=some (.slice ad p.main.length md):=HX4.out.at 4 rfl;have q4:w5.cell? ⟨w.heap.size+1,4,none⟩=some (.slice bd p.main.length nd):=HY4.out.at 4 rfl)
  | (go_at_call 58;(refine (eqinstrs_same p.main _ _ _ (HP4.out.2.2.2) (HR4.out.2.2.2)).mono ?_);rintro e w6 ⟨rfl,hb⟩;have HB5:=hid (HB4.out.trans (hb.mono HB4.out.size));have HX5:=hid (HX4.out.bel hb);have HY5:=hid (HY4.out.bel hb);have HP5:=hid (HP4.out.below hb);have HR5:=hid (HR4.out.below hb);clear hb p0 q0 p1 q1 p2 q2 p3 q3 p4 q4;have p0:w6.cell? ⟨w.heap.size,0,none⟩=some (.int .i64 p.width):=HX5.out.at 0 rfl;have q0:w6.cell? ⟨w.heap.size+1,0,none⟩=some (.int .i64 p.width):=HY5.out.at 0 rfl;have p1:w6.cell? ⟨w.heap.size,1,none⟩=some (.slice aa p.chans.length ma):=HX5.out.at 1 rfl;have q1:w6.cell? ⟨w.heap.size+1,1,none⟩=some (.slice ba p.chans.length na):=HY5.out.at 1 rfl;have p2:w6.cell? ⟨w.heap.size,2,none⟩=some (.slice ab p.arrays.length mb):=HX5.out.at 2 rfl;have q2:w6.cell? ⟨w.heap.size+1,2,none⟩=some (.slice bb p.arrays.length nb):=HY5.out.at 2 rfl;have p3:w6.cell? ⟨w.heap.size,3,none⟩=some (.slice ac p.funcs.length mc):=HX5.out.at 3 rfl;have q3:w6.cell? ⟨w.heap.size+1,3,none⟩=some (.slice bc p.funcs.length nc):=HY5.out.at 3 rfl;have p4:w6.cell? ⟨w.heap.size,4,none⟩=some (.slice ad p.main.length md):=HX5.out.at 4 rfl;have q4:w6.cell? ⟨w.heap.size+1,4,none⟩=some (.slice bd p.main.length nd):=HY5.out.at 4 rfl))
 go_ret
 exact ⟨rfl,HB5.out⟩
end Go.Proofs.YtoofbgoeipijcaaGreatDoor
