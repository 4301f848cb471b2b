/-
 A part.
-/
import Derived.Test.YtoofbgoeipijcaaGreatDoorVSPrZ
namespace Go.Proofs.YtoofbgoeipijcaaGreatDoor
set_option linter.all false
open Go.RowKit Go.Shelf
attribute [local go_sem] Oper.semAt_some
theorem BxL.rowJ {t:TypeId} {q:Nat} {cs:List Value} {w:World} (h:BxL t q cs w):RowR (fun _=>True) w (some ⟨q,0,none⟩) cs :=
 .inr ⟨q,0,rfl,trivial,fun j hj=>by rw [Nat.zero_add];exact h.at j (List.getElem?_eq_getElem hj)⟩
section
variable {P:Program} {α:Type} {K:EK α} {R:Nat->Prop} {B:Nat} {w:World} {v:Value} {l:List α} {x:α} {cs:List Value} {te:TypeId}
theorem run_pushJ (t ty:TypeId) (ht:P.underlying t=some (.slice te)) (z:Value) (bytes:Nat) (hinfo:(P.info? te).map (fun i=>(i.zero,i.size,i.bytes))=some (some z,K.n,bytes)) (hzs:z.cells.size=K.n)
  (h:GR K R B te w v l) (hR:∀ k,R k->k<w.heap.size/\v.ownBlock ≠ some k) (hx:K.E R w cs x) {q:Nat} (hq:BxL te q cs w)
  (hl:(l.length+1)*bytes<=140737488355328) (h63:l.length+1<=maxLen) (hB:B<=w.heap.size) :
  ∃ v' w',(Builtin.append_ #[t,t] ty #[v,.slice (some ⟨q,0,none⟩) 1 1]).run P w=.ok v' w'/\GR K R B te w' v' (l++[x])/\w.grownBy w' v.ownBlock/\Moved w v v':=by
 obtain ⟨css,h1,h2⟩:=h
 obtain ⟨v',w',hrun,ho',hg,hv⟩:=run_appG (P:=P) w B t ty te z K.n bytes ht hinfo hzs K.pos v l.length css.flatten h2 ⟨q,0,none⟩ 1 1 cs (by rw [K.len hx];omega) hq.rowJ (K.one hx) hl h63 hB
 have hsame:∀ k,R k->w'.heap[k]?=w.heap[k]?:=fun k hk=>by
  obtain ⟨a,b⟩:=hR k hk
  exact hg.block k a fun e=>b e.symm
 refine ⟨v',w',hrun,⟨css++[cs],(h1.keep fun k hk=>⟨hk,hsame k hk⟩).snoc (K.keep hx fun k hk=>⟨hk,hsame k hk⟩),?_⟩,hg,?_⟩
 ·rw [List.length_append,List.flatten_append];simpa using ho'
 ·rcases hv with e | e
  ·exact .inl e
  ·exact .inr ⟨_,e,Nat.le_refl _⟩
theorem wpIn_pushJ {F:Fence} {n0:Nat} (hF:∀ f,F.fn f) {o:Oper} {a:Act} {KK:Act->World->Prop} {Q:Exit->Act->World->Prop} (s y:Operand) (t:TypeId)
  (ho:o.op=.call { callee := .builtin .append,args:=#[s,y],argTypes:=#[t,t] }) (ht:P.underlying t=some (.slice te)) (z:Value) (bytes:Nat) (hinfo:(P.info? te).map (fun i=>(i.zero,i.size,i.bytes))=some (some z,K.n,bytes)) (hzs:z.cells.size=K.n)
  (h:GR K R B te w v l) (hR:∀ k,R k->k<w.heap.size/\v.ownBlock ≠ some k) (hx:K.E R w cs x) {q:Nat} (hq:BxL te q cs w) (hs:a.eval s=v) (hy:a.eval y=.slice (some ⟨q,0,none⟩) 1 1)
  (hl:(l.length+1)*bytes<=140737488355328) (h63:l.length+1<=maxLen) (hB:B<=w.heap.size)
  (hK:∀ v' w',GR K R B te w' v' (l++[x])->w.grownBy w' v.ownBlock->Moved w v v'->KK (a.put o.dst v') w'):o.wpIn F n0 P a w KK Q:=by
 obtain ⟨v',w',hrun,h2,h3,h4⟩:=run_pushJ (P:=P) t o.type ht z bytes hinfo hzs h hR hx hq hl h63 hB
 refine ⟨fun f _=>hF f,?_⟩
 rw [Oper.semAt_eq _ _ _ (fun c e=>by rw [ho] at e;cases e)]
 unfold execOp
 simp only [ho,resolve,invoke,builtin,Sem.run_bind,Sem.run_pure,Result.andThen_ok,List.map_toArray,List.map_cons,List.map_nil,hs,hy,hrun,Oper.uponIn]
 exact hK v' w' h2 h3 h4
theorem wpList_pushJ {ops:Array Oper} {rest:List Oper} {o:Oper} {a:Act} {Q:Exit->Act->World->Prop} (hgd:o.guard=none) (s y:Operand) (t:TypeId)
  (ho:o.op=.call { callee := .builtin .append,args:=#[s,y],argTypes:=#[t,t] }) (ht:P.underlying t=some (.slice te)) (z:Value) (bytes:Nat) (hinfo:(P.info? te).map (fun i=>(i.zero,i.size,i.bytes))=some (some z,K.n,bytes)) (hzs:z.cells.size=K.n)
  (h:GR K R B te w v l) (hR:∀ k,R k->k<w.heap.size/\v.ownBlock ≠ some k) (hx:K.E R w cs x) {q:Nat} (hq:BxL te q cs w) (hs:a.eval s=v) (hy:a.eval y=.slice (some ⟨q,0,none⟩) 1 1)
  (hl:(l.length+1)*bytes<=140737488355328) (h63:l.length+1<=maxLen) (hB:B<=w.heap.size)
  (hK:∀ v' w',GR K R B te w' v' (l++[x])->w.grownBy w' v.ownBlock->Moved w v v'->wpList P ops Q rest (a.put o.dst v') w'):wpList P ops Q (o :: rest) a w:=by
 refine wpList_plain hgd fun _ hK'=>?_
 obtain ⟨v',w',hrun,h2,h3,h4⟩:=run_pushJ (P:=P) t o.type ht z bytes hinfo hzs h hR hx hq hl h63 hB
 unfold Oper.wp execOp
 simp only [ho,resolve,invoke,builtin,Sem.run_bind,Sem.run_pure,Result.andThen_ok,List.map_toArray,List.map_cons,List.map_nil,hs,hy,hrun]
 exact hK' _ _ (hK v' w' h2 h3 h4)
end
theorem SlG.box2J {α:Type} {K:EK α} {R:Nat->Prop} {w:World} {t:TypeId} {q:Nat} {c1 c2:List Value} {x y:α} (h:BxL t q (c1++c2) w) (hx:K.E R w c1 x) (hy:K.E R w c2 y) (hR:R q):SlG K R w (.slice (some ⟨q,0,none⟩) 2 2) [x,y]:=by
 refine ⟨[c1,c2],⟨rfl,fun i hi hi'=>?_⟩,_,_,rfl,Nat.le_refl _,by show (2:Nat)<=maxLen;unfold maxLen;omega,by show (2:Nat)<=_;omega,.inr ⟨q,0,rfl,hR,fun j hj=>?_⟩⟩
 ·match i,hi with
  | 0,_=>exact hx
  | 1,_=>exact hy
 ·have e:[c1,c2].flatten=c1++c2:=by simp
  have hj':j<(c1++c2).length:=by rw [<- e];exact hj
  rw [Nat.zero_add,h.at j (List.getElem?_eq_getElem hj')]
  congr 1
  simp only [e]
theorem BxL.otJ {t:TypeId} {b c i:Nat} {v:Value} {cs:List Value} {W:World} (h:BxL t b cs W) (hc:b ≠ c):BxL t b cs (W.setCell ⟨c,i,none⟩ v):=h.keep (heap_ot hc _)
end Go.Proofs.YtoofbgoeipijcaaGreatDoor
