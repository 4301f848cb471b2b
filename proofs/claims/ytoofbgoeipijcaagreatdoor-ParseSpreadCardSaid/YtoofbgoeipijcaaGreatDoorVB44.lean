/-
 A part.
-/
import Derived.Test.YtoofbgoeipijcaaGreatDoorVSPrZ2
import Derived.Laws.OwnMore
namespace Go.Proofs.YtoofbgoeipijcaaGreatDoor
set_option maxRecDepth 100000
set_option maxHeartbeats 4000000
set_option linter.all false
open Go.RowKit Go.Shelf
attribute [local go_sem] Oper.semAt_some
structure GF {α:Type} (K:EK α) (B e:Nat) (w:World) (v:Value) (l:List α):Prop where
 row:∃ css,Each K (fun k=>B<=k/\k<w.heap.size/\v.ownBlock ≠ some k) w css l/\w.ownsRow B e K.n v l.length css.flatten
section
variable {α:Type} {K:EK α} {B B' e:Nat} {w w':World} {v v':Value} {l:List α}
theorem Each.weaken {R R':Nat->Prop} {css:List (List Value)} (h:Each K R w css l) (hf:∀ k,R k->R' k):Each K R' w css l:=h.keep fun k hk=>⟨hf k hk,rfl⟩
theorem GF.nil (K:EK α) (B e:Nat) (w:World):GF K B e w (.slice none 0 0) []:=⟨⟨[],Each.nil,World.ownsRow_nil _ _ _ _⟩⟩
theorem GF.ga (h:GF K B e w v l):GA K B e w v l:=let ⟨css,h1,h2⟩:=h.row;⟨⟨css,h1.weaken fun k hk=>hk.2,h2⟩⟩
theorem GF.slc (h:GF K B e w v l):∃ p c,v=.slice p l.length c:=h.ga.slc
theorem GF.lt (h:GF K B e w v l):∀ k,v.ownBlock=some k->B<=k/\k<w.heap.size:=h.ga.lt
theorem GF.base (h:GF K B e w v l) (hB:B'<=B):GF K B' e w v l:=by
 obtain ⟨css,h1,h2⟩:=h.row
 refine ⟨⟨css,h1.weaken fun k hk=>⟨Nat.le_trans hB hk.1,hk.2⟩,h2.1,?_⟩⟩
 rcases h2.2 with h | ⟨g,cap,cur,h3,hb,h4⟩
 ·exact .inl h
 ·exact .inr ⟨g,cap,cur,h3,Nat.le_trans hB hb,h4⟩
theorem GF.keepB (h:GF K B e w v l) (hs:w.heap.size<=w'.heap.size) (hf:∀ k,B<=k->k<w.heap.size->w'.heap[k]?=w.heap[k]?):GF K B e w' v l:=by
 obtain ⟨css,h1,h2⟩:=h.row
 exact ⟨⟨css,h1.keep fun k hk=>⟨⟨hk.1,Nat.lt_of_lt_of_le hk.2.1 hs,hk.2.2⟩,hf k hk.1 hk.2.1⟩,owns_keepG h2 fun j hj=>hf j (h2.lt j hj).1 (h2.lt j hj).2⟩⟩
theorem GF.keep (h:GF K B e w v l) (hb:Below w.heap.size w w'):GF K B e w' v l:=h.keepB hb.size fun k _ hk=>hb.block k hk
theorem GF.sl (h:GF K B e w v l) (hl:l.length<=140737488355328):SlG K (fun k=>B<=k/\k<w.heap.size) w v l:=by
 obtain ⟨css,h1,h2⟩:=h.row
 exact SlG.ofOwn (h1.weaken fun k hk=>⟨hk.1,hk.2.1⟩) h2 hl fun k hk=>h2.lt k hk
theorem GF.push {x:α} {css:List (List Value)} {cs:List Value} {o:Obj} (h:Each K (fun k=>B<=k/\k<w.heap.size/\v.ownBlock ≠ some k) w css l) (hl:∀ k,v.ownBlock=some k->k<w.heap.size)
  (hx:K.E (fun k=>B<=k/\k<w.heap.size/\v.ownBlock ≠ some k) w cs x) (hg:(w.alloc o).grownBy w' v.ownBlock) (ho:w'.ownsRow B e K.n v' (l.length+1) (css.flatten++cs)) (hv:v'.ownBlock=v.ownBlock\/v'.ownBlock=some (w.alloc o).heap.size):GF K B e w' v' (l++[x]):=by
 have hga:=(World.grownBy_alloc w o v.ownBlock).trans hg
 have hn:∀ k,(B<=k/\k<w.heap.size/\v.ownBlock ≠ some k)->(B<=k/\k<w'.heap.size/\v'.ownBlock ≠ some k)/\w'.heap[k]?=w.heap[k]?:=fun k hk=>by
  refine ⟨⟨hk.1,Nat.lt_of_lt_of_le hk.2.1 hga.size,fun e=>?_⟩,hga.block k hk.2.1 fun e=>hk.2.2 e.symm⟩
  rcases hv with e' | e'
  ·exact hk.2.2 (e'.symm.trans e)
  ·rw [e'] at e;rw [sA] at e;cases e;omega
 refine ⟨⟨css++[cs],(h.keep hn).snoc (K.keep hx hn),?_⟩⟩
 rw [List.length_append,List.flatten_append]
 simpa using ho
end
section
variable {P:Program}
end
theorem SlG.cap {α:Type} {K:EK α} {R:Nat->Prop} {w:World} {p:Option Addr} {n c:Nat} {l:List α} (h:SlG K R w (.slice p n c) l):l.length<=c:=by
 obtain ⟨_,_,p',c',e,h1,_⟩:=h
 cases e;exact h1
theorem eqstrs_sameK (l:List Bs) (va vb:Value) (R R':Nat->Prop) (w:World) (ha:SlG kStr R w va l) (hb:SlG kStr R' w vb l) :
  Calls Tryz.prog 55 #[va,vb] w fun e w'=>e=.returned (.bool true)/\∃ n,w.drewN n=w':=by
 obtain ⟨pa,ca,rfl⟩:=ha.slc
 obtain ⟨pb,cb,rfl⟩:=hb.slc
 have HA:=hid ha;have HB:=hid hb
 clear ha hb
 go_enter Tryz.func55,Tryz.ntmps55
 go_wp2
 go_loopw [4,5] (fun rv iv wr=>∃ (k n:Nat),k<=l.length/\rv=.bool false/\iv=.int .i64 k/\wr=w.drewN n) (fun _ iv _=>l.length - (intOf iv).toNat)
 case atStart=>exact ⟨0,0,Nat.zero_le _,rfl,rfl,rfl⟩
 case round =>
  obtain ⟨k,n,hk,rfl,rfl,rfl⟩:=hrel
  by_cases hlt:k<l.length
  ·obtain ⟨b1,o1,rfl,hR1,hc1⟩:=str_at HA.out (by omega:0<l.length)
   obtain ⟨b2,o2,rfl,hR2,hc2⟩:=str_at HB.out (by omega:0<l.length)
   have c0:=hc1 k hlt
   have d0:=hc2 k hlt
   have HLT:=hid hlt
   clear hc1 hc2
   generalize l[k]=x at *
   clear hlt
   have hlt:=HLT.out
   go_wp2_with fail
   go_quiet (fail)
   go_wp2
   go_roundw
   case rel=>exact ⟨k+1,n+nq,HLT.out,by first | rfl | trivial,by rw [wrap_next HLT.out HA.len],by first | rfl | rw [World.drewN_drewN]⟩
   case measure=>exact meas_next HLT.out HA.len
  ·obtain rfl:k=l.length:=by omega
   clear hlt
   go_wp2
   go_ret
   exact ⟨rfl,n,rfl⟩
theorem eqarrs_sameK (l:List Ar) (va vb:Value) (R R':Nat->Prop) (w:World) (ha:SlG kAr R w va l) (hb:SlG kAr R' w vb l) :
  Calls Tryz.prog 56 #[va,vb] w fun e w'=>e=.returned (.bool true)/\∃ n,w.drewN n=w':=by
 obtain ⟨pa,ca,rfl⟩:=ha.slc
 obtain ⟨pb,cb,rfl⟩:=hb.slc
 have HA:=hid ha;have HB:=hid hb
 clear ha hb
 go_enter Tryz.func56,Tryz.ntmps56
 go_wp2
 go_loopw [4,5] (fun rv iv wr=>∃ (k n:Nat),k<=l.length/\rv=.bool false/\iv=.int .i64 k/\wr=w.drewN n) (fun _ iv _=>l.length - (intOf iv).toNat)
 case atStart=>exact ⟨0,0,Nat.zero_le _,rfl,rfl,rfl⟩
 case round =>
  obtain ⟨k,n,hk,rfl,rfl,rfl⟩:=hrel
  by_cases hlt:k<l.length
  ·obtain ⟨b1,o1,rfl,hR1,hc1⟩:=ar_at HA.out (by omega:0<l.length)
   obtain ⟨b2,o2,rfl,hR2,hc2⟩:=ar_at HB.out (by omega:0<l.length)
   obtain ⟨c0,c1⟩:=hc1 k hlt
   obtain ⟨d0,d1⟩:=hc2 k hlt
   have HLT:=hid hlt
   clear hc1 hc2
   generalize l[k]=x at *
   clear hlt
   have hlt:=HLT.out
   go_wp2_with fail
   go_quiet (fail)
   go_wp2
   go_roundw
   case rel=>exact ⟨k+1,n+nq,HLT.out,by first | rfl | trivial,by rw [wrap_next HLT.out HA.len],by first | rfl | rw [World.drewN_drewN]⟩
   case measure=>exact meas_next HLT.out HA.len
  ·obtain rfl:k=l.length:=by omega
   clear hlt
   go_wp2
   go_ret
   exact ⟨rfl,n,rfl⟩
theorem eqinstrs_same (l:List In) (va vb:Value) (w:World) (ha:SlG kIn (·<w.heap.size) w va l) (hb:SlG kIn (·<w.heap.size) w vb l) :
  Calls Tryz.prog 58 #[va,vb] w fun e w'=>e=.returned (.bool true)/\Below w.heap.size w w':=by
 obtain ⟨pa,ca,rfl⟩:=ha.slc
 obtain ⟨pb,cb,rfl⟩:=hb.slc
 have HA:=hid ha;have HB:=hid hb
 clear ha hb
 go_enter Tryz.func58,Tryz.ntmps58
 go_wp2
 go_loopw [4,5] (fun rv iv wr=>∃ k:Nat,k<=l.length/\rv=.bool false/\iv=.int .i64 k/\Below w.heap.size w wr) (fun _ iv _=>l.length - (intOf iv).toNat)
 case atStart=>exact ⟨0,Nat.zero_le _,rfl,rfl,Below.refl _ _⟩
 case round =>
  obtain ⟨k,hk,rfl,rfl,hbr⟩:=hrel
  by_cases hlt:k<l.length
  ·obtain ⟨b1,o1,rfl,hR1,hc1⟩:=in_at HA.out (by omega:0<l.length)
   obtain ⟨b2,o2,rfl,hR2,hc2⟩:=in_at HB.out (by omega:0<l.length)
   obtain ⟨p1,cp1,ha1,e0,e1,e2,e3,e4,e5,e6⟩:=hc1 k hlt
   obtain ⟨p2,cp2,ha2,g0,g1,g2,g3,g4,g5,g6⟩:=hc2 k hlt
   have HBW:=hid (show Below w.heap.size w wr.drew from hbr.trans (Below.refl _ _).drew)
   have q0:wr.drew.cell? ⟨b1,o1+k*7,none⟩=some _:=(HBW.cell (p:=⟨b1,o1+k*7,none⟩) hR1).trans e0
   have q1:wr.drew.cell? ⟨b1,o1+k*7+1,none⟩=some _:=(HBW.cell (p:=⟨b1,o1+k*7+1,none⟩) hR1).trans e1
   have q2:wr.drew.cell? ⟨b1,o1+k*7+2,none⟩=some _:=(HBW.cell (p:=⟨b1,o1+k*7+2,none⟩) hR1).trans e2
   have q3:wr.drew.cell? ⟨b1,o1+k*7+3,none⟩=some _:=(HBW.cell (p:=⟨b1,o1+k*7+3,none⟩) hR1).trans e3
   have q4:wr.drew.cell? ⟨b1,o1+k*7+4,none⟩=some _:=(HBW.cell (p:=⟨b1,o1+k*7+4,none⟩) hR1).trans e4
   have q5:wr.drew.cell? ⟨b1,o1+k*7+5,none⟩=some _:=(HBW.cell (p:=⟨b1,o1+k*7+5,none⟩) hR1).trans e5
   have q6:wr.drew.cell? ⟨b1,o1+k*7+6,none⟩=some _:=(HBW.cell (p:=⟨b1,o1+k*7+6,none⟩) hR1).trans e6
   have t0:wr.drew.cell? ⟨b2,o2+k*7,none⟩=some _:=(HBW.cell (p:=⟨b2,o2+k*7,none⟩) hR2).trans g0
   have t1:wr.drew.cell? ⟨b2,o2+k*7+1,none⟩=some _:=(HBW.cell (p:=⟨b2,o2+k*7+1,none⟩) hR2).trans g1
   have t2:wr.drew.cell? ⟨b2,o2+k*7+2,none⟩=some _:=(HBW.cell (p:=⟨b2,o2+k*7+2,none⟩) hR2).trans g2
   have t3:wr.drew.cell? ⟨b2,o2+k*7+3,none⟩=some _:=(HBW.cell (p:=⟨b2,o2+k*7+3,none⟩) hR2).trans g3
   have t4:wr.drew.cell? ⟨b2,o2+k*7+4,none⟩=some _:=(HBW.cell (p:=⟨b2,o2+k*7+4,none⟩) hR2).trans g4
   have t5:wr.drew.cell? ⟨b2,o2+k*7+5,none⟩=some _:=(HBW.cell (p:=⟨b2,o2+k*7+5,none⟩) hR2).trans g5
   have t6:wr.drew.cell? ⟨b2,o2+k*7+6,none⟩=some _:=(HBW.cell (p:=⟨b2,o2+k*7+6,none⟩) hR2).trans g6
   have HA1:=hid (ha1.below HBW.out);have HA2:=hid (ha2.below HBW.out)
   have HLT:=hid hlt
   clear hc1 hc2 ha1 ha2 hR1 hR2 hbr e0 g0 e1 g1 e2 g2 e3 g3 e4 g4 e5 g5 e6 g6
   generalize l[k]=x at *
   clear hlt
   have hlt:=HLT.out
   go_upto_region 6 with fail
   have hS:(fun W=>W.cell? ⟨b1,o1+k*7,none⟩=some (.int .u8 (x.kind:Int))/\W.cell? ⟨b1,o1+k*7+1,none⟩=some (.int .u8 (x.op:Int))/\W.cell? ⟨b1,o1+k*7+2,none⟩=some (.string ⟨x.dst.toArray⟩)/\W.cell? ⟨b1,o1+k*7+3,none⟩=some (.string ⟨x.nm.toArray⟩)/\W.cell? ⟨b1,o1+k*7+4,none⟩=some (.slice p1 x.args.length cp1)/\W.cell? ⟨b1,o1+k*7+5,none⟩=some (.int .i64 x.pos.1)/\W.cell? ⟨b1,o1+k*7+6,none⟩=some (.int .i64 x.pos.2)/\W.cell? ⟨b2,o2+k*7,none⟩=some (.int .u8 (x.kind:Int))/\W.cell? ⟨b2,o2+k*7+1,none⟩=some (.int .u8 (x.op:Int))/\W.cell? ⟨b2,o2+k*7+2,none⟩=some (.string ⟨x.dst.toArray⟩)/\W.cell? ⟨b2,o2+k*7+3,none⟩=some (.string ⟨x.nm.toArray⟩)/\W.cell? ⟨b2,o2+k*7+4,none⟩=some (.slice p2 x.args.length cp2)/\W.cell? ⟨b2,o2+k*7+5,none⟩=some (.int .i64 x.pos.1)/\W.cell? ⟨b2,o2+k*7+6,none⟩=some (.int .i64 x.pos.2)) wr.drew:=⟨q0,q1,q2,q3,q4,q5,q6,t0,t1,t2,t3,t4,t5,t6⟩
   clear q0 t0 q1 t1 q2 t2 q3 t3 q4 t4 q5 t5 q6 t6
   have hFa:=fT
   refine rgN (fun W=>W.cell? ⟨b1,o1+k*7,none⟩=some (.int .u8 (x.kind:Int))/\W.cell? ⟨b1,o1+k*7+1,none⟩=some (.int .u8 (x.op:Int))/\W.cell? ⟨b1,o1+k*7+2,none⟩=some (.string ⟨x.dst.toArray⟩)/\W.cell? ⟨b1,o1+k*7+3,none⟩=some (.string ⟨x.nm.toArray⟩)/\W.cell? ⟨b1,o1+k*7+4,none⟩=some (.slice p1 x.args.length cp1)/\W.cell? ⟨b1,o1+k*7+5,none⟩=some (.int .i64 x.pos.1)/\W.cell? ⟨b1,o1+k*7+6,none⟩=some (.int .i64 x.pos.2)/\W.cell? ⟨b2,o2+k*7,none⟩=some (.int .u8 (x.kind:Int))/\W.cell? ⟨b2,o2+k*7+1,none⟩=some (.int .u8 (x.op:Int))/\W.cell? ⟨b2,o2+k*7+2,none⟩=some (.string ⟨x.dst.toArray⟩)/\W.cell? ⟨b2,o2+k*7+3,none⟩=some (.string ⟨x.nm.toArray⟩)/\W.cell? ⟨b2,o2+k*7+4,none⟩=some (.slice p2 x.args.length cp2)/\W.cell? ⟨b2,o2+k*7+5,none⟩=some (.int .i64 x.pos.1)/\W.cell? ⟨b2,o2+k*7+6,none⟩=some (.int .i64 x.pos.2)) 8 (by kernel_rfl) ?_
   simp only [zP,Nat.reduceAdd]
   iterate 3 (refine npW (v:=?_) 10 (.inr hS) ?_ ?_;rotate_left;(focus intro w' _;go_simp;try rfl);simp only [aP])
   refine wpHJ_take (v:=?v0) 3 hFa rfl (by kernel_rfl) nE (Or.inl ⟨by rfl,?y0⟩) hS ?r0
   case y0=>(rintro w' ⟨s0,s1,s2,s3,s4,s5,s6,s7,s8,s9,s10,s11,s12,s13⟩;go_simp;try rfl)
   simp only [aP]
   iterate 3 (refine npW (v:=?_) 10 (.inr hS) ?_ ?_;rotate_left;(focus intro w' _;go_simp;try rfl);simp only [aP])
   refine wpHJ_take (v:=?v1) 7 hFa rfl (by kernel_rfl) nE (Or.inl ⟨by rfl,?y1⟩) hS ?r1
   case y1=>(rintro w' ⟨s0,s1,s2,s3,s4,s5,s6,s7,s8,s9,s10,s11,s12,s13⟩;go_simp;try rfl)
   simp only [aP]
   refine oy 8 fun K hK=>?_
   go_simp
   (refine (callsIn_wide.2 (eqinstr_same x _ _ _ HA1.out HA2.out)).mono ?_)
   rintro e w5 ⟨rfl,hb⟩
   have HB5:=hid (HBW.trans (hb.mono HBW.size))
   clear hb
   refine hK _ _ (.inl rfl) ?_
   clear hK K
   refine wpHJ_pure (v:=?v2) 9 hFa rfl (by kernel_rfl) nE (Or.inl ⟨by rfl,?y2⟩) (.inl rfl) ?r2
   case y2=>(intro w' _;go_simp;try rfl)
   simp only [aP]
   refine wpHJ_done (by kernel_rfl) ?_ _
   simp only [onlyN,Exit.then]
   clear hFa
   clear hS
   go_wp2_with fail
   go_roundw
   case rel=>exact ⟨k+1,HLT.out,by first | rfl | trivial,by first | (rw [wrap_next HLT.out HA.len]) | rfl,HB5.out⟩
   case measure=>first | exact meas_next HLT.out HA.len | (have h1:=HLT.out;simp [intOf];omega)
  ·obtain rfl:k=l.length:=by omega
   clear hlt
   have HBR:=hid hbr
   clear hbr
   go_wp2
   go_ret
   exact ⟨rfl,HBR.out⟩
end Go.Proofs.YtoofbgoeipijcaaGreatDoor
