/-
 Blocks of cells that are known whole.
-/
import Derived.Test.YtbijamcoibonkaaDoorCB14
import Derived.Test.YtbijamcoibonkaaDoorCB7
import Derived.Test.YtbijamcoibonkaaDoorCSTkM
namespace Go.Proofs.YtbijamcoibonkaaDoor
set_option linter.unusedSimpArgs false
set_option linter.unusedVariables false
open Go.RowKit Go.Shelf
def BxL (t:TypeId) (b:Nat) (cs:List Value) (W:World):Prop:=W.heap[b]?=some (.cells cs.toArray t (0,0))
theorem BxL.new (t:TypeId) (W:World) (cs:List Value):BxL t W.heap.size cs (W.alloc (.cells cs.toArray t)):=by unfold BxL;rw [heap_al,if_pos rfl]
theorem BxL.lt {t:TypeId} {b:Nat} {cs:List Value} {W:World} (h:BxL t b cs W):b<W.heap.size:=(Array.getElem?_eq_some_iff.1 h).1
theorem BxL.keep {t:TypeId} {b:Nat} {cs:List Value} {W W':World} (h:BxL t b cs W) (e:W'.heap[b]?=W.heap[b]?):BxL t b cs W':=e.trans h
theorem BxL.bel {t:TypeId} {b:Nat} {cs:List Value} {W W':World} (h:BxL t b cs W) (hb:Below W.heap.size W W'):BxL t b cs W':=h.keep (hb.block b h.lt)
theorem BxL.al {t:TypeId} {b:Nat} {cs:List Value} {W:World} (h:BxL t b cs W) (o:Obj):BxL t b cs (W.alloc o):=h.bel ((Below.refl _ _).alloc (Nat.le_refl _) _)
theorem BxL.at {t:TypeId} {b:Nat} {cs:List Value} {W:World} (h:BxL t b cs W) (i:Nat) {v:Value} (hv:cs[i]?=some v):W.cell? ⟨b,i,none⟩=some v:=by
 unfold BxL at h
 simp [World.cell?,h,hv]
theorem BxL.fr {t:TypeId} {b:Nat} {cs:List Value} {W:World} (h:BxL t b cs W) (i:Nat):W.frozen? ⟨b,i,none⟩=false:=by
 unfold BxL at h
 simp [World.frozen?,h]
theorem wrap_next {k L:Nat} (h:k<L) (hL:L≤140737488355328):wrap64 ((k:Int)+1)=((k+1:Nat):Int):=by
 have:wrap64 ((k:Int)+1)=(k:Int)+1:=by unfold wrap64;omega
 rw [this];rfl
theorem meas_next {k L:Nat} (h:k<L) (hL:L≤140737488355328):L - (intOf (.int .i64 (wrap64 ((k:Int)+1)))).toNat<L - (intOf (.int .i64 (k:Int))).toNat:=by
 rw [wrap_next h hL];show L - ((k+1:Nat):Int).toNat<L - ((k:Nat):Int).toNat;omega
theorem BxL.set {t:TypeId} {b:Nat} {cs:List Value} {W:World} (h:BxL t b cs W) (i:Nat) (v:Value):BxL t b (cs.set i v) (W.setCell ⟨b,i,none⟩ v):=by
 unfold BxL at h ⊢
 simp only [World.setCell,Array.getElem?_modify]
 rw [h]
 simp
theorem heap_ot {W:World} {b i k:Nat} (h:k ≠ b) (v:Value):(W.setCell ⟨b,i,none⟩ v).heap[k]?=W.heap[k]?:=Below.heap_setCell _ _ _ _ h
theorem BxL.p2 {t:TypeId} {b:Nat} {a0 a1:Value} {r:List Value} {W:World} (h:BxL t b (a0 :: a1 :: r) W):W.cell? ⟨b,0,none⟩=some a0∧W.cell? ⟨b,1,none⟩=some a1:=⟨h.at 0 rfl,h.at 1 rfl⟩
theorem BxL.p3 {t:TypeId} {b:Nat} {a0 a1 a2:Value} {r:List Value} {W:World} (h:BxL t b (a0 :: a1 :: a2 :: r) W):W.cell? ⟨b,0,none⟩=some a0∧W.cell? ⟨b,1,none⟩=some a1∧W.cell? ⟨b,2,none⟩=some a2:=⟨h.at 0 rfl,h.at 1 rfl,h.at 2 rfl⟩
theorem BxL.p4 {t:TypeId} {b:Nat} {a0 a1 a2 a3:Value} {r:List Value} {W:World} (h:BxL t b (a0 :: a1 :: a2 :: a3 :: r) W):W.cell? ⟨b,0,none⟩=some a0∧W.cell? ⟨b,1,none⟩=some a1∧W.cell? ⟨b,2,none⟩=some a2∧W.cell? ⟨b,3,none⟩=some a3:=⟨h.at 0 rfl,h.at 1 rfl,h.at 2 rfl,h.at 3 rfl⟩
theorem BxL.p5 {t:TypeId} {b:Nat} {a0 a1 a2 a3 a4:Value} {r:List Value} {W:World} (h:BxL t b (a0 :: a1 :: a2 :: a3 :: a4 :: r) W):W.cell? ⟨b,0,none⟩=some a0∧W.cell? ⟨b,1,none⟩=some a1∧W.cell? ⟨b,2,none⟩=some a2∧W.cell? ⟨b,3,none⟩=some a3∧W.cell? ⟨b,4,none⟩=some a4:=⟨h.at 0 rfl,h.at 1 rfl,h.at 2 rfl,h.at 3 rfl,h.at 4 rfl⟩
theorem BxL.p6 {t:TypeId} {b:Nat} {a0 a1 a2 a3 a4 a5:Value} {r:List Value} {W:World} (h:BxL t b (a0 :: a1 :: a2 :: a3 :: a4 :: a5 :: r) W):W.cell? ⟨b,0,none⟩=some a0∧W.cell? ⟨b,1,none⟩=some a1∧W.cell? ⟨b,2,none⟩=some a2∧W.cell? ⟨b,3,none⟩=some a3∧W.cell? ⟨b,4,none⟩=some a4∧W.cell? ⟨b,5,none⟩=some a5:=⟨h.at 0 rfl,h.at 1 rfl,h.at 2 rfl,h.at 3 rfl,h.at 4 rfl,h.at 5 rfl⟩
theorem BxL.p7 {t:TypeId} {b:Nat} {a0 a1 a2 a3 a4 a5 a6:Value} {r:List Value} {W:World} (h:BxL t b (a0 :: a1 :: a2 :: a3 :: a4 :: a5 :: a6 :: r) W):W.cell? ⟨b,0,none⟩=some a0∧W.cell? ⟨b,1,none⟩=some a1∧W.cell? ⟨b,2,none⟩=some a2∧W.cell? ⟨b,3,none⟩=some a3∧W.cell? ⟨b,4,none⟩=some a4∧W.cell? ⟨b,5,none⟩=some a5∧W.cell? ⟨b,6,none⟩=some a6:=⟨h.at 0 rfl,h.at 1 rfl,h.at 2 rfl,h.at 3 rfl,h.at 4 rfl,h.at 5 rfl,h.at 6 rfl⟩
def Moved (w:World) (v v':Value):Prop:=v'.ownBlock=v.ownBlock∨∃ k,v'.ownBlock=some k∧w.heap.size≤k
theorem Moved.refl (w:World) (v:Value):Moved w v v := .inl rfl
theorem Moved.trans {w w':World} {a b c:Value} (h:Moved w a b) (hs:w.heap.size≤w'.heap.size) (k:Moved w' b c):Moved w a c:=by
 rcases k with k | ⟨j,k,hj⟩
 ·rcases h with h | ⟨i,h,hi⟩
  ·exact .inl (k.trans h)
  ·exact .inr ⟨i,k.trans h,hi⟩
 ·exact .inr ⟨j,k,by omega⟩
section
variable {P:Program}
theorem wpList_push {α:Type} {K:EK α} {B:Nat} {w:World} {v:Value} {l:List α} {x:α} {cs:List Value} {te:TypeId} {ops:Array Oper} {rest:List Oper} {o:Oper} {a:Act} {Q:Exit→Act→World→Prop}
  (hgd:o.guard=none) (s y:Operand) (t:TypeId) (ho:o.op = .call { callee := .builtin .append,args:=#[s,y],argTypes:=#[t,t] }) (ht:P.underlying t=some (.slice te))
  (z:Value) (bytes:Nat) (hinfo:(P.info? te).map (fun i=>(i.zero,i.size,i.bytes))=some (some z,K.n,bytes)) (hzs:z.cells.size=K.n)
  (h:GA K B te w v l) (hx:K.E (fun k=>k<w.heap.size∧v.ownBlock ≠ some k) w cs x) (hs:a.eval s=v) (hy:a.eval y = .slice (some ⟨w.heap.size,0,none⟩) 1 1)
  (hl:(l.length+1)*bytes≤140737488355328) (h63:l.length+1≤maxLen) (hB:B≤w.heap.size)
  (hK:∀ v' w',GA K B te w' v' (l++[x])→(w.alloc (.cells cs.toArray te)).grownBy w' v.ownBlock→Moved w v v'→wpList P ops Q rest (a.put o.dst v') w') :
  wpList P ops Q (o :: rest) a (w.alloc (.cells cs.toArray te)):=by
 obtain ⟨css,h1,h2⟩:=h.row
 refine wpList_appG (R:=fun _=>True) _ hgd s y t ho B te z K.n bytes ht hinfo hzs K.pos v l.length css.flatten hs (h2.alloc _) ⟨w.heap.size,0,none⟩ 1 1 cs hy (by rw [K.len hx];omega) (RowR.lit w cs te trivial) (K.one hx) hl h63 (by rw [World.size_alloc];omega) ?_
 intro v' w' ho' hg hv
 refine hK v' w' ?_ hg ?_
 ·exact GA.push h1 (fun k hk=>(h2.lt k hk).2) hx hg ho' hv
 ·rcases hv with e | e
  ·exact .inl e
  ·exact .inr ⟨_,e,by rw [World.size_alloc];omega⟩
end
theorem GA.below {α:Type} {K:EK α} {B e:Nat} {w w':World} {v:Value} {l:List α} (h:GA K B e w v l) {o:Obj} (hb:Below B w w) (hg:(w.alloc o).grownBy w' v.ownBlock) (hB:B≤w.heap.size):Below B w w':=by
 refine ⟨hg.os,hg.tape,hg.output,Nat.le_trans (by rw [World.size_alloc];omega) hg.size,fun k hk=>?_⟩
 rw [hg.block k (by rw [World.size_alloc];omega) (fun e=>by have:=(h.lt k e.symm).1;omega),heap_al,if_neg (by omega)]
theorem below_push {α:Type} {K:EK α} {B e:Nat} {w0 w w':World} {v:Value} {l:List α} (h:GA K B e w v l) {o:Obj} (hb:Below B w0 w) (hg:(w.alloc o).grownBy w' v.ownBlock) (hB:B≤w.heap.size):Below B w0 w' :=
 hb.trans (h.below (Below.refl _ _) hg hB)
structure CK where
 cb:Nat
 mc:Nat
 ma:Nat
 ms:Nat
 mp:Nat
 a:Value
 b:Value
 c:Value
 d:Value
 p:Pg
structure CS where
 chans:List Bs
 arrays:List Bs
 sites:List Bs
 params:List (Bs × Nat)
 labels:List (List Bs)
def Off (B:Nat) (K:CK) (vl:Value) (rs:List Nat) (k:Nat):Prop:=B≤k∧k ≠ K.cb∧k ≠ K.mc∧k ≠ K.ma∧k ≠ K.ms∧k ≠ K.mp∧vl.ownBlock ≠ some k∧k ∉ rs
theorem PgV.stay {B:Nat} {w w':World} {a b c d:Value} {p:Pg} (h:PgV (·<B) w a b c d p) (hf:∀ k,k<B→w'.heap[k]?=w.heap[k]?):PgV (·<B) w' a b c d p:=h.keep fun k hk=>⟨hk,hf k hk⟩
def GR {α:Type} (K:EK α) (R:Nat→Prop) (B e:Nat) (w:World) (v:Value) (l:List α):Prop :=
 ∃ css,Each K R w css l∧w.ownsRow B e K.n v l.length css.flatten
theorem GR.nil {α:Type} (K:EK α) (R:Nat→Prop) (B e:Nat) (w:World):GR K R B e w (.slice none 0 0) []:=⟨[],Each.nil,World.ownsRow_nil _ _ _ _⟩
theorem GR.slc {α:Type} {K:EK α} {R:Nat→Prop} {B e:Nat} {w:World} {v:Value} {l:List α} (h:GR K R B e w v l):∃ p c,v = .slice p l.length c:=let ⟨_,_,h⟩:=h;own_sliceG h
theorem GR.lt {α:Type} {K:EK α} {R:Nat→Prop} {B e:Nat} {w:World} {v:Value} {l:List α} (h:GR K R B e w v l):∀ k,v.ownBlock=some k→B≤k∧k<w.heap.size:=let ⟨_,_,h⟩:=h;h.lt
theorem GR.keep {α:Type} {K:EK α} {R R':Nat→Prop} {B e:Nat} {w w':World} {v:Value} {l:List α} (h:GR K R B e w v l) (hf:∀ k,R k→R' k∧w'.heap[k]?=w.heap[k]?) (ho:∀ j,v.ownBlock=some j→w'.heap[j]?=w.heap[j]?):GR K R' B e w' v l :=
 let ⟨css,h1,h2⟩:=h;⟨css,h1.keep hf,owns_keepG h2 ho⟩
theorem GR.ga {α:Type} {K:EK α} {R:Nat→Prop} {B e:Nat} {w:World} {v:Value} {l:List α} (h:GR K R B e w v l) (hR:∀ k,R k→k<w.heap.size∧v.ownBlock ≠ some k):GA K B e w v l :=
 let ⟨css,h1,h2⟩:=h;⟨⟨css,h1.keep fun k hk=>⟨hR k hk,rfl⟩,h2⟩⟩
theorem GR.sl {α:Type} {K:EK α} {R:Nat→Prop} {B e:Nat} {w:World} {v:Value} {l:List α} (h:GR K R B e w v l) (hl:l.length≤140737488355328):SlG K (fun k=>R k∨v.ownBlock=some k) w v l:=by
 obtain ⟨css,h1,h2⟩:=h
 refine ⟨css,h1.keep fun k hk=>⟨.inl hk,rfl⟩,?_⟩
 obtain ⟨hlen,h3⟩:=h2
 rcases h3 with ⟨rfl,h0⟩ | ⟨g,cap,cur,rfl,hb,hg,hnc,hcm,hcs,ht⟩
 ·obtain rfl:=List.eq_nil_of_length_eq_zero h0
  have hc0:css=[]:=List.eq_nil_of_length_eq_zero (by rw [h1.1];rfl)
  subst hc0
  exact ⟨none,0,rfl,Nat.le_refl _,Nat.zero_le _,Nat.zero_le _,.inl rfl⟩
 ·refine ⟨_,cap,rfl,hnc,hcm,hl,.inr ⟨g,0,rfl,.inr rfl,fun j hj=>?_⟩⟩
  rw [Nat.zero_add,cell_of_row w g j cur e (0,0) hg]
  have e1:(cur.toList.take (l.length*K.n))[j]?=some css.flatten[j]:=by rw [ht];exact List.getElem?_eq_getElem hj
  rw [List.getElem?_take] at e1
  split at e1
  ·simpa using e1
  ·cases e1
section
variable {P:Program}
end
def upd (O:Nat→Value) (j:Nat) (v:Value):Nat→Value:=fun i=>if i=j then v else O i
theorem upd_eq (O:Nat→Value) (j:Nat) (v:Value):upd O j v j=v:=if_pos rfl
theorem upd_ne (O:Nat→Value) {i j:Nat} (v:Value) (h:i ≠ j):upd O j v i=O i:=if_neg h
def Fin' (b:Nat) (O:Nat→Value) (w:World) (k:Nat):Prop:=k<w.heap.size∧k ≠ b∧∀ i,(O i).ownBlock ≠ some k
structure Owns (b:Nat) (O:Nat→Value) (w:World):Prop where
 ne:∀ i j k,i ≠ j→(O i).ownBlock=some k→(O j).ownBlock ≠ some k
 lt:∀ i k,(O i).ownBlock=some k→b<k∧k<w.heap.size
theorem Owns.size {b:Nat} {O:Nat→Value} {w w':World} (h:Owns b O w) (hs:w.heap.size≤w'.heap.size):Owns b O w' :=
 ⟨h.ne,fun i k hk=>let ⟨a,c⟩:=h.lt i k hk;⟨a,by omega⟩⟩
theorem Owns.moved {b:Nat} {O:Nat→Value} {w w':World} {j:Nat} {v':Value} (h:Owns b O w) (hm:Moved w (O j) v') (hs:w.heap.size≤w'.heap.size) (hb:b<w.heap.size) (hv:∀ k,v'.ownBlock=some k→k<w'.heap.size):Owns b (upd O j v') w':=by
 have hn:∀ i k,i ≠ j→(O i).ownBlock=some k→v'.ownBlock ≠ some k:=fun i k hij hk e=>by
  rcases hm with e' | ⟨q,e',hq⟩
  ·exact h.ne i j k hij hk (e'.symm.trans e)
  ·rw [e'] at e;cases e;have:=(h.lt i _ hk).2;omega
 refine ⟨fun i i' k hii hk=>?_,fun i k hk=>?_⟩
 ·by_cases h1:i=j
  ·subst h1
   rw [upd_eq] at hk
   rw [upd_ne O v' (Ne.symm hii)]
   exact fun e=>hn i' k (Ne.symm hii) e hk
  ·rw [upd_ne O v' h1] at hk
   by_cases h2:i'=j
   ·subst h2;rw [upd_eq];exact hn i k h1 hk
   ·rw [upd_ne O v' h2];exact h.ne i i' k hii hk
 ·by_cases h1:i=j
  ·subst h1
   rw [upd_eq] at hk
   refine ⟨?_,hv k hk⟩
   rcases hm with e' | ⟨q,e',hq⟩
   ·exact (h.lt i k (e'.symm.trans hk)).1
   ·rw [e'] at hk;cases hk;omega
  ·rw [upd_ne O v' h1] at hk
   obtain ⟨a,c⟩:=h.lt i k hk
   exact ⟨a,by omega⟩
theorem Fin'.size {b:Nat} {O:Nat→Value} {w w':World} {k:Nat} (h:Fin' b O w k) (hs:w.heap.size≤w'.heap.size):Fin' b O w' k:=⟨by have:=h.1;omega,h.2⟩
theorem Fin'.moved {b:Nat} {O:Nat→Value} {w w':World} {j k:Nat} {v':Value} (h:Fin' b O w k) (hm:Moved w (O j) v') (hs:w.heap.size≤w'.heap.size):Fin' b (upd O j v') w' k:=by
 refine ⟨by have:=h.1;omega,h.2.1,fun i=>?_⟩
 by_cases h1:i=j
 ·subst h1;rw [upd_eq]
  rcases hm with e' | ⟨q,e',hq⟩
  ·rw [e'];exact h.2.2 i
  ·rw [e'];intro e;cases e;have:=h.1;omega
 ·rw [upd_ne O v' h1];exact h.2.2 i
structure Step (b:Nat) (O:Nat→Value) (j:Nat) (w w':World):Prop where
 os:w'.os=w.os
 tape:w'.tape=w.tape
 output:w'.output=w.output
 size:w.heap.size≤w'.heap.size
 block:∀ k,k<w.heap.size→k ≠ b→(O j).ownBlock ≠ some k→w'.heap[k]?=w.heap[k]?
theorem Step.of_but {b j:Nat} {O:Nat→Value} {w w':World} (h:But (fun k=>k=b) w w'):Step b O j w w':=⟨h.os,h.tape,h.output,h.size,fun k hk hb _=>h.block k hk hb⟩
theorem Step.of_grown {b j:Nat} {O:Nat→Value} {w w':World} {o:Obj} (hg:(w.alloc o).grownBy w' (O j).ownBlock):Step b O j w w':=by
 have hs:=hg.size
 rw [World.size_alloc] at hs
 refine ⟨hg.os,hg.tape,hg.output,by omega,fun k hk _ hne=>?_⟩
 rw [hg.block k (by rw [World.size_alloc];omega) (fun e=>hne e.symm),heap_al,if_neg (by omega)]
theorem Step.set {b j:Nat} {O:Nat→Value} {w w':World} (h:Step b O j w w') (i:Nat) (v:Value):Step b O j w (w'.setCell ⟨b,i,none⟩ v) :=
 ⟨h.os,h.tape,h.output,by simp only [World.size_setCell];exact h.size,fun k hk hb hne=>by rw [heap_ot hb];exact h.block k hk hb hne⟩
theorem Step.below {B b j:Nat} {O:Nat→Value} {w w':World} (h:Step b O j w w') (ho:Owns b O w) (hb:B≤b) (hB:B≤w.heap.size):Below B w w' :=
 ⟨h.os,h.tape,h.output,h.size,fun k hk=>h.block k (by omega) (by omega) fun e=>by have:=(ho.lt j k e).1;omega⟩
theorem GR.stay {α:Type} {K:EK α} {B b e i j:Nat} {O:Nat→Value} {w w':World} {v':Value} {l:List α} (h:GR K (Fin' b O w) B e w (O i) l) (ho:Owns b O w) (hs:Step b O j w w') (hm:Moved w (O j) v') (hij:i ≠ j):GR K (Fin' b (upd O j v') w') B e w' (upd O j v' i) l:=by
 rw [upd_ne O v' hij]
 exact h.keep (fun k hk=>⟨hk.moved hm hs.size,hs.block k hk.1 hk.2.1 (hk.2.2 j)⟩) fun k hk=>hs.block k (ho.lt i k hk).2 (by have:=(ho.lt i k hk).1;omega) (ho.ne i j k hij hk)
end Go.Proofs.YtbijamcoibonkaaDoor
