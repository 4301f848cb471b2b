/-
 A part.
-/
import Derived.Test.YtoofbgoeipijcaaGreatDoorVB1
import Derived.Maps.OwnIn
import Derived.CallsIn
import Derived.RangeFuncNested
import Derived.RangeFuncBound
import Derived.RangeFuncCalls
import Derived.RangeFuncLeaves
import Derived.RangeFuncWrites
import Derived.Shelf.RegionOpen
import Derived.OwnWalkIn
import Derived.TacticsInMore
import Derived.LoopNIn
import Derived.LoopIn
import Derived.Test.YtoofbgoeipijcaaGreatDoorVSShelf
namespace Go.Proofs.YtoofbgoeipijcaaGreatDoor
set_option linter.unusedSimpArgs false
set_option linter.unusedVariables false
open Go.RowKit
section
variable {P:Program} {b:Frame} {a:Act} {k:List Item} {cs:List Frame} {w:World} {Q:Exit->Act->World->Prop} {F:Fence} {n:Nat}
end
section
variable {P:Program} (w:World)
theorem run_appG {R:Nat->Prop} (base:Nat) (t ty e:TypeId) (z:Value) (size bytes:Nat) (ht:P.underlying t=some (.slice e))
  (hinfo:(P.info? e).map (fun i=>(i.zero,i.size,i.bytes))=some (some z,size,bytes)) (hzs:z.cells.size=size) (hpos:0<size)
  (v:Value) (n:Nat) (xs:List Value) (hown:w.ownsRow base e size v n xs)
  (p:Addr) (m c:Nat) (news:List Value) (hm:news.length=m*size) (hr:RowR R w (some p) news) (h1:∀ u ∈ news,u.oneCell'=true)
  (hsz:(n+m)*bytes<=140737488355328) (h63:n+m<=maxLen) (hbase:base<=w.heap.size) :
  ∃ v' w',(Builtin.append_ #[t,t] ty #[v,.slice (some p) m c]).run P w = .ok v' w'/\w'.ownsRow base e size v' (n+m) (xs++news)/\w.grownBy w' v.ownBlock /\
   (v'.ownBlock=v.ownBlock\/v'.ownBlock=some w.heap.size):=by
 obtain ⟨i,hi,hz,hs1,hby⟩:=info_parts hinfo
 have hcells:∀ j u,news[j]?=some u->w.cell? (p.add j)=some u:=by
  intro j u hu
  obtain ⟨hj,rfl⟩:=List.getElem?_eq_some_iff.1 hu
  obtain ⟨b,off,h,_,hc⟩:=hr.at j hj
  injection h with h
  subst h
  have hadd:(⟨b,off,none⟩:Addr).add j=⟨b,off+j,none⟩:=by unfold Addr.add;split <;> simp_all
  rw [hadd]
  exact hc j hj
 obtain ⟨v',w',hrun,h2,h3,_,h5⟩:=run_append_own_at (P:=P) w base t ty e i z size bytes ht hi hz hs1 hby hzs hpos v n xs hown p m c news hm hcells h1 h63 hsz hbase
 exact ⟨v',w',hrun,h2,h3,h5⟩
theorem wpList_appG {R:Nat->Prop} {ops:Array Oper} {rest:List Oper} {o:Oper} {a:Act} {Q:Exit->Act->World->Prop} (hgd:o.guard=none) (s x:Operand) (t:TypeId)
  (ho:o.op = .call { callee := .builtin .append,args:=#[s,x],argTypes:=#[t,t] })
  (base:Nat) (e:TypeId) (z:Value) (size bytes:Nat) (ht:P.underlying t=some (.slice e))
  (hinfo:(P.info? e).map (fun i=>(i.zero,i.size,i.bytes))=some (some z,size,bytes)) (hzs:z.cells.size=size) (hpos:0<size)
  (v:Value) (n:Nat) (xs:List Value) (hs:a.eval s=v) (hown:w.ownsRow base e size v n xs)
  (p:Addr) (m c:Nat) (news:List Value) (hx:a.eval x = .slice (some p) m c) (hm:news.length=m*size) (hr:RowR R w (some p) news) (h1:∀ u ∈ news,u.oneCell'=true)
  (hsz:(n+m)*bytes<=140737488355328) (h63:n+m<=maxLen) (hbase:base<=w.heap.size)
  (h:∀ v' w',w'.ownsRow base e size v' (n+m) (xs++news)->w.grownBy w' v.ownBlock->(v'.ownBlock=v.ownBlock\/v'.ownBlock=some w.heap.size)->wpList P ops Q rest (a.put o.dst v') w'):wpList P ops Q (o :: rest) a w:=by
 refine wpList_plain hgd fun _ hK=>?_
 obtain ⟨v',w',hrun,h2,h3,h4⟩:=run_appG (P:=P) w base t o.type e z size bytes ht hinfo hzs hpos v n xs hown p m c news hm hr h1 hsz h63 hbase
 unfold Oper.wp execOp
 simp only [ho,resolve,invoke,builtin,Sem.run_bind,Sem.run_pure,Result.andThen_ok,List.map_toArray,List.map_cons,List.map_nil,hs,hx,hrun]
 exact hK _ _ (h v' w' h2 h3 h4)
end
def wcells (x:Wd):List Value:=[.string ⟨x.1.toArray⟩,.int .i64 (x.2.1:Int),.int .i64 (x.2.2:Int)]
def wflat (ws:List Wd):List Value:=ws.flatMap wcells
theorem wflat_len (ws:List Wd):(wflat ws).length=ws.length*3:=by
 induction ws with
 | nil=>rfl
 | cons x r ih=>simp only [wflat,List.flatMap_cons,List.length_append] at ih ⊢;rw [ih];simp [wcells];omega
theorem wflat_append (a b:List Wd):wflat (a++b)=wflat a++wflat b:=List.flatMap_append
theorem wflat_one (x:Wd):wflat [x]=wcells x:=by simp [wflat]
def Wds (R:Nat->Prop) (w:World) (v:Value) (ws:List Wd):Prop :=
 ∃ p c,v = .slice p ws.length c/\ws.length<=c/\c<=maxLen/\RowR R w p (wflat ws)
theorem Wds.keep {R R':Nat->Prop} {w w':World} {v:Value} {ws:List Wd} (h:Wds R w v ws) (hf:∀ k,R k->R' k/\w'.heap[k]?=w.heap[k]?):Wds R' w' v ws :=
 let ⟨p,c,e,h1,h2,hr⟩:=h;⟨p,c,e,h1,h2,hr.keep hf⟩
theorem Wds.nil {R:Nat->Prop} {w:World}:Wds R w (.slice none 0 0) []:=⟨none,0,rfl,Nat.le_refl _,Nat.zero_le _,.inl rfl⟩
def Soft (w:World) (k:Nat):Prop:=∃ cs t,w.heap[k]?=some (.cells cs t (0,0))
theorem Soft.size {w:World} {k:Nat} (h:Soft w k):k<w.heap.size:=by
 obtain ⟨cs,t,h⟩:=h
 exact (Array.getElem?_eq_some_iff.1 h).1
theorem Soft.keep {w w':World} {k:Nat} (h:Soft w k) (e:w'.heap[k]?=w.heap[k]?):Soft w' k:=by
 obtain ⟨cs,t,h⟩:=h
 exact ⟨cs,t,e.trans h⟩
theorem Soft.frozen {w:World} {k i:Nat} (h:Soft w k):w.frozen? ⟨k,i,none⟩=false:=by
 obtain ⟨cs,t,h⟩:=h
 simp [World.frozen?,h]
theorem Wds.of_owns {R:Nat->Prop} {w:World} {base e:Nat} {v:Value} {ws:List Wd} (h:w.ownsRow base e 3 v ws.length (wflat ws)) (hR:∀ k,v.ownBlock=some k->base<=k->Soft w k->R k):Wds R w v ws:=by
 obtain ⟨hl,h2⟩:=h
 rcases h2 with ⟨rfl,h0⟩ | ⟨g,cap,cur,rfl,hb,hg,hnc,hcm,hcs,ht⟩
 ·obtain rfl:=List.eq_nil_of_length_eq_zero h0
  exact Wds.nil
 ·refine ⟨_,cap,rfl,hnc,hcm,.inr ⟨g,0,rfl,hR g rfl hb ⟨cur,e,hg⟩,fun j hj=>?_⟩⟩
  rw [Nat.zero_add,cell_of_row w g j cur e (0,0) hg]
  have e1:(cur.toList.take (ws.length*3))[j]?=some (wflat ws)[j]:=by rw [ht];exact List.getElem?_eq_getElem hj
  rw [List.getElem?_take] at e1
  split at e1
  ·simpa using e1
  ·cases e1
def WLL (R:Nat->Prop) (w:World) (v:Value) (ls:List (List Wd)):Prop :=
 ∃ vs,Sl R w v vs/\vs.length=ls.length/\∀ i (h:i<ls.length) (h':i<vs.length),Wds R w vs[i] ls[i]
theorem WLL.keep {R R':Nat->Prop} {w w':World} {v:Value} {ls:List (List Wd)} (h:WLL R w v ls) (hf:∀ k,R k->R' k/\w'.heap[k]?=w.heap[k]?):WLL R' w' v ls :=
 let ⟨vs,h1,h2,h3⟩:=h;⟨vs,h1.keep hf,h2,fun i hi hi'=>(h3 i hi hi').keep hf⟩
theorem owns_keepG {base e sz n:Nat} {w w':World} {v:Value} {xs:List Value} (h:w.ownsRow base e sz v n xs) (hf:∀ j,v.ownBlock=some j->w'.heap[j]?=w.heap[j]?):w'.ownsRow base e sz v n xs:=by
 obtain ⟨hl,h2⟩:=h
 refine ⟨hl,?_⟩
 rcases h2 with h2 | ⟨g,cap,cur,rfl,hb,hg,hr⟩
 ·exact .inl h2
 ·exact .inr ⟨g,cap,cur,rfl,hb,(hf g rfl).trans hg,hr⟩
theorem owns_soft {base e sz n:Nat} {w:World} {v:Value} {xs:List Value} (h:w.ownsRow base e sz v n xs):∀ j,v.ownBlock=some j->Soft w j:=by
 intro j hj
 obtain ⟨hl,h2⟩:=h
 rcases h2 with ⟨rfl,_⟩ | ⟨g,cap,cur,rfl,hb,hg,hr⟩
 ·cases hj
 ·cases hj;exact ⟨cur,e,hg⟩
def Rw (B:Nat) (w:World) (X:Nat->Prop) (vs:List Value) (out:List (List Wd)):Prop :=
 (∀ i (h:i<out.length) (h':i<vs.length),Wds (fun k=>vs[i].ownBlock=some k) w vs[i] out[i])/\(∀ v ∈ vs,∀ k,v.ownBlock=some k->B<=k/\Soft w k/\X k)/\vs.Pairwise (fun a b=>∀ k,a.ownBlock=some k->b.ownBlock ≠ some k)
theorem Rw.nil {B:Nat} {w:World} {X:Nat->Prop}:Rw B w X [] []:=⟨fun i h=>absurd h (by simp),fun v h=>absurd h (by simp),List.Pairwise.nil⟩
theorem Rw.keep {B:Nat} {w w':World} {X X':Nat->Prop} {vs:List Value} {out:List (List Wd)} (h:Rw B w X vs out) (hf:∀ k,B<=k->Soft w k->X k->w'.heap[k]?=w.heap[k]?/\X' k):Rw B w' X' vs out:=by
 obtain ⟨h1,h2,h3⟩:=h
 refine ⟨fun i hi hi'=>(h1 i hi hi').keep fun k hk=>?_,fun v hv k hk=>?_,h3⟩
 ·obtain ⟨a,b,c⟩:=h2 _ (List.getElem_mem hi') k hk
  exact ⟨hk,(hf k a b c).1⟩
 ·obtain ⟨a,b,c⟩:=h2 v hv k hk
  obtain ⟨d,e⟩:=hf k a b c
  exact ⟨a,b.keep d,e⟩
theorem Rw.snoc {B:Nat} {w:World} {X:Nat->Prop} {vs:List Value} {out:List (List Wd)} {v:Value} {ws:List Wd} (h:Rw B w X vs out) (hl:vs.length=out.length) (hw:Wds (fun k=>v.ownBlock=some k) w v ws) (hv:∀ k,v.ownBlock=some k->B<=k/\Soft w k/\X k) (hne:∀ u ∈ vs,∀ k,u.ownBlock=some k->v.ownBlock ≠ some k):Rw B w X (vs++[v]) (out++[ws]):=by
 obtain ⟨h1,h2,h3⟩:=h
 refine ⟨fun i hi hi'=>?_,fun u hu k hk=>?_,?_⟩
 ·by_cases hi2:i<out.length
  ·have e1:(vs++[v])[i]'hi'=vs[i]'(by omega):=List.getElem_append_left (by omega)
   have e2:(out++[ws])[i]'hi=out[i]:=List.getElem_append_left hi2
   rw [e1,e2]
   exact h1 i hi2 (by omega)
  ·have hie:i=out.length:=by simp at hi;omega
   subst hie
   have e1:(vs++[v])[out.length]'hi'=v:=by simp [hl]
   have e2:(out++[ws])[out.length]'hi=ws:=by simp
   rw [e1,e2]
   exact hw
 ·rcases List.mem_append.1 hu with hu | hu
  ·exact h2 u hu k hk
  ·rw [List.mem_singleton] at hu;subst hu;exact hv k hk
 ·refine List.pairwise_append.2 ⟨h3,List.pairwise_singleton _ _,fun a ha b hb k hk=>?_⟩
  rw [List.mem_singleton] at hb
  subst hb
  exact hne a ha k hk
structure Acc (B eo ew:Nat) (w:World) (vo vw:Value) (out:List (List Wd)) (ws:List Wd):Prop where
 lines:∃ vs:List Value,w.ownsRow B eo 1 vo out.length vs/\vs.length=out.length/\Rw B w (fun k=>vo.ownBlock ≠ some k/\vw.ownBlock ≠ some k) vs out
 words:w.ownsRow B ew 3 vw ws.length (wflat ws)
 ne:∀ k,vo.ownBlock=some k->vw.ownBlock ≠ some k
theorem Acc.nil (B eo ew:Nat) (w:World):Acc B eo ew w (.slice none 0 0) (.slice none 0 0) [] [] :=
 ⟨⟨[],World.ownsRow_nil _ _ _ _,rfl,Rw.nil⟩,World.ownsRow_nil _ _ _ _,fun k h=>by cases h⟩
theorem Acc.keep {B eo ew:Nat} {w w':World} {vo vw:Value} {out:List (List Wd)} {ws:List Wd} (h:Acc B eo ew w vo vw out ws) (hf:∀ k,B<=k->Soft w k->w'.heap[k]?=w.heap[k]?):Acc B eo ew w' vo vw out ws:=by
 obtain ⟨⟨vs,h1,h2,h3⟩,h4,h5⟩:=h
 refine ⟨⟨vs,owns_keepG h1 fun j hj=>hf j (h1.lt j hj).1 (owns_soft h1 j hj),h2,h3.keep fun k hb hs hx=>⟨hf k hb hs,hx⟩⟩,owns_keepG h4 fun j hj=>hf j (h4.lt j hj).1 (owns_soft h4 j hj),h5⟩
theorem Acc.grown {B eo ew:Nat} {w w':World} {vo vw:Value} {out:List (List Wd)} {ws:List Wd} (h:Acc B eo ew w vo vw out ws) {row:Option Nat} (hg:w.grownBy w' row) (hr:∀ r,row=some r->∃ o:Obj,w.heap[r]?=some o/\o.isCells=false):Acc B eo ew w' vo vw out ws :=
 h.keep fun k _ hk=>hg.block k hk.size fun e=>by
  obtain ⟨o,ho,hc⟩:=hr k e.symm
  obtain ⟨cs,t,hh⟩:=hk
  rw [hh] at ho
  cases ho
  cases hc
theorem Acc.alloc {B eo ew:Nat} {w:World} {vo vw:Value} {out:List (List Wd)} {ws:List Wd} (h:Acc B eo ew w vo vw out ws) (o:Obj):Acc B eo ew (w.alloc o) vo vw out ws:=h.grown (World.grownBy_alloc w o none) (fun r e=>by cases e)
theorem Acc.drop {B eo ew:Nat} {w:World} {vo vw:Value} {out:List (List Wd)} {ws:List Wd} (h:Acc B eo ew w vo vw out ws):Acc B eo ew w vo (.slice none 0 0) out []:=by
 obtain ⟨⟨vs,h1,h2,h3⟩,h4,h5⟩:=h
 exact ⟨⟨vs,h1,h2,h3.keep fun k _ _ hx=>⟨rfl,hx.1,fun e=>by cases e⟩⟩,World.ownsRow_nil _ _ _ _,fun k _ e=>by cases e⟩
theorem Acc.push {B eo ew:Nat} {w w':World} {vo vw vw':Value} {out:List (List Wd)} {ws:List Wd} {x:Wd} {o:Obj} (h:Acc B eo ew w vo vw out ws) (hg:(w.alloc o).grownBy w' vw.ownBlock)
  (ho:w'.ownsRow B ew 3 vw' (ws.length+1) (wflat ws++wcells x)) (hv:vw'.ownBlock=vw.ownBlock\/vw'.ownBlock=some (w.alloc o).heap.size):Acc B eo ew w' vo vw' out (ws++[x]):=by
 have hga:=(World.grownBy_alloc w o vw.ownBlock).trans hg
 obtain ⟨⟨vs,h1,h2,h3⟩,h4,h5⟩:=h
 have hn:∀ k,k<w.heap.size->vw.ownBlock ≠ some k->w'.heap[k]?=w.heap[k]?/\vw'.ownBlock ≠ some k:=fun k hk hne=>by
  refine ⟨hga.block k hk fun e=>hne e.symm,fun e=>?_⟩
  rcases hv with e' | e'
  ·exact hne (e'.symm.trans e)
  ·rw [e'] at e;rw [World.size_alloc] at e;cases e;omega
 refine ⟨⟨vs,owns_keepG h1 fun j hj=>(hn j (h1.lt j hj).2 (h5 j hj)).1,h2,h3.keep fun k _ hs hx=>⟨(hn k hs.size hx.2).1,hx.1,(hn k hs.size hx.2).2⟩⟩,?_,fun k hk=>(hn k (h1.lt k hk).2 (h5 k hk)).2⟩
 ·rw [wflat_append,wflat_one,List.length_append]
  exact ho
theorem own_sliceG {base e sz n:Nat} {w:World} {v:Value} {xs:List Value} (h:w.ownsRow base e sz v n xs):∃ p c,v = .slice p n c:=by
 rcases h.2 with ⟨rfl,h0⟩ | ⟨g,cap,cur,rfl,_⟩
 ·exact ⟨none,0,by rw [h0]⟩
 ·exact ⟨_,_,rfl⟩
theorem owns_unique {base e sz n:Nat} {w:World} {v:Value} {xs ys:List Value} (h:w.ownsRow base e sz v n xs) (h':w.ownsRow base e sz v n ys):xs=ys:=by
 obtain ⟨hl,h2⟩:=h
 obtain ⟨hl',h2'⟩:=h'
 rcases h2 with ⟨rfl,h0⟩ | ⟨g,cap,cur,rfl,hb,hg,hnc,hcm,hcs,ht⟩
 ·subst h0
  rw [Nat.zero_mul] at hl hl'
  rw [List.eq_nil_of_length_eq_zero hl,List.eq_nil_of_length_eq_zero hl']
 ·rcases h2' with ⟨e1,_⟩ | ⟨g',cap',cur',e1,hb',hg',hnc',hcm',hcs',ht'⟩
  ·cases e1
  ·cases e1
   rw [hg] at hg'
   cases hg'
   rw [<- ht,<- ht']
theorem Acc.line {B eo ew:Nat} {w w':World} {vo vo' vw:Value} {out:List (List Wd)} {ws:List Wd} {o:Obj} (h:Acc B eo ew w vo vw out ws) (hg:(w.alloc o).grownBy w' vo.ownBlock)
  {us:List Value} (hus:w.ownsRow B eo 1 vo out.length us) (ho:w'.ownsRow B eo 1 vo' (out.length+1) (us++[vw])) (hv:vo'.ownBlock=vo.ownBlock\/vo'.ownBlock=some (w.alloc o).heap.size):Acc B eo ew w' vo' (.slice none 0 0) (out++[ws]) []:=by
 have hga:=(World.grownBy_alloc w o vo.ownBlock).trans hg
 obtain ⟨⟨vs,h1,h2,h3⟩,h4,h5⟩:=h
 obtain rfl:us=vs:=owns_unique hus h1
 have hn:∀ k,k<w.heap.size->vo.ownBlock ≠ some k->w'.heap[k]?=w.heap[k]?/\vo'.ownBlock ≠ some k:=fun k hk hne=>by
  refine ⟨hga.block k hk fun e=>hne e.symm,fun e=>?_⟩
  rcases hv with e' | e'
  ·exact hne (e'.symm.trans e)
  ·rw [e'] at e;rw [World.size_alloc] at e;cases e;omega
 refine ⟨⟨us++[vw],by rw [List.length_append];exact ho,by simp [h2],?_⟩,World.ownsRow_nil _ _ _ _,fun k _ e=>by cases e⟩
 have h3':Rw B w' (fun k=>vo'.ownBlock ≠ some k/\(Value.slice none 0 0).ownBlock ≠ some k) us out:=h3.keep fun k _ hs hx=>⟨(hn k hs.size hx.1).1,(hn k hs.size hx.1).2,fun e=>by cases e⟩
 have h4':=owns_keepG h4 fun j hj=>(hn j (h4.lt j hj).2 fun e=>h5 j e hj).1
 refine h3'.snoc h2 (Wds.of_owns (base:=B) (e:=ew) h4' fun k hk hb hs=>hk) (fun k hk=>⟨(h4.lt k hk).1,owns_soft h4' k hk,(hn k (h4.lt k hk).2 fun e=>h5 k e hk).2,fun e=>by cases e⟩) fun u hu k hk=>((h3.2.1 u hu k hk).2.2).2
theorem Acc.wll {B eo ew:Nat} {w:World} {vo vw:Value} {out:List (List Wd)} {ws:List Wd} (h:Acc B eo ew w vo vw out ws) (hl:out.length<=140737488355328):WLL (fun k=>B<=k/\Soft w k) w vo out:=by
 obtain ⟨⟨vs,h1,h2,h3⟩,h4,h5⟩:=h
 exact ⟨vs,Sl.of_owns h1 hl fun k hk=>⟨(h1.lt k hk).1,owns_soft h1 k hk⟩,h2,fun i hi hi'=>(h3.1 i hi hi').keep fun k hk=>⟨⟨(h3.2.1 _ (List.getElem_mem hi') k hk).1,(h3.2.1 _ (List.getElem_mem hi') k hk).2.1⟩,rfl⟩⟩
def WLS (B eo:Nat) (w:World) (v:Value) (out:List (List Wd)):Prop:=∃ vs,w.ownsRow B eo 1 v out.length vs/\vs.length=out.length/\Rw B w (fun k=>v.ownBlock ≠ some k) vs out
theorem owns_base {base base' e sz n:Nat} {w:World} {v:Value} {xs:List Value} (h:w.ownsRow base e sz v n xs) (hb:base'<=base):w.ownsRow base' e sz v n xs:=by
 obtain ⟨hl,h2⟩:=h
 refine ⟨hl,?_⟩
 rcases h2 with h2 | ⟨g,cap,cur,e1,hbg,hr⟩
 ·exact .inl h2
 ·exact .inr ⟨g,cap,cur,e1,Nat.le_trans hb hbg,hr⟩
theorem WLS.nil (B eo:Nat) (w:World):WLS B eo w (.slice none 0 0) []:=⟨[],World.ownsRow_nil _ _ _ _,rfl,Rw.nil⟩
theorem Acc.res {B B' eo ew:Nat} {w:World} {vo vw:Value} {out:List (List Wd)} {ws:List Wd} (h:Acc B eo ew w vo vw out ws) (hl:out.length<=140737488355328) (hb:B'<=B):WLL (fun k=>B'<=k/\Soft w k) w vo out/\WLS B' eo w vo out:=by
 refine ⟨(h.wll hl).keep fun k hk=>⟨⟨by omega,hk.2⟩,rfl⟩,?_⟩
 obtain ⟨⟨vs,h1,h2,h3⟩,h4,h5⟩:=h
 exact ⟨vs,owns_base h1 hb,h2,h3.1,fun v hv k hk=>let ⟨a,b,c⟩:=h3.2.1 v hv k hk;⟨by omega,b,c.1⟩,h3.2.2⟩
theorem Acc.vs {B eo ew:Nat} {w:World} {vo vw:Value} {out:List (List Wd)} {ws:List Wd} (h:Acc B eo ew w vo vw out ws):∃ vs,w.ownsRow B eo 1 vo out.length vs:=h.lines.imp fun _ h=>h.1
end Go.Proofs.YtoofbgoeipijcaaGreatDoor
namespace Go.Proofs.YtoofbgoeipijcaaGreatDoor
set_option linter.unusedSimpArgs false
set_option linter.unusedVariables false
open Go.RowKit Go.Shelf
attribute [local go_sem] Oper.semAt_some
def Ab (B:Nat) (I:World->Prop):Prop :=
 ∀ W W' row,I W->W.grownBy W' row->(∀ r,row=some r->B<=r/\∃ o:Obj,W.heap[r]?=some o/\o.isCells=false)->I W'
theorem Ab.drewN {B:Nat} {I:World->Prop} (h:Ab B I) {W:World} (k:Nat) (hs:I W):I (W.drewN k) :=
 h W _ none hs ⟨rfl,rfl,rfl,Nat.le_refl _,fun _ _ _=>rfl⟩ (fun r e=>by cases e)
structure Five (w:World) (vo:Value) (t:Bs) (m:Int) (W:World):Prop where
 b0:W.heap[w.heap.size]?=some (.cells #[.slice none 0 0] 65 (0,0))
 b1:W.heap[w.heap.size+1]?=some (.cells #[.int .i64 0,.int .i64 0] 39 (0,0))
 b2:W.heap[w.heap.size+1+1]?=some (.cells #[.int .i64 0] 29 (0,0))
 b3:W.heap[w.heap.size+1+1+1]?=some (.cells #[vo] 65 (0,0))
 b4:W.heap[w.heap.size+1+1+1+1]?=some (.cells #[.string ⟨t.toArray⟩] 9 (0,0))
 g:W.cell? ⟨0,0,none⟩=some (.int .i64 m)
 bel:Below w.heap.size w W
def LI (w:World) (m:Int) (s:Bs) (n:Nat) (t:Bs) (W:World):Prop :=
 ∃ vo out,Five w vo t m W/\Acc (w.heap.size+7) 104 128 W vo (.slice none 0 0) out []/\ls n t out=tok s/\out.length+1<=n
def LK (w:World) (m:Int) (s:Bs) (n:Nat) (t:Bs) (W:World):Prop :=
 ∃ vo out,Five w vo t m W/\Acc (w.heap.size+7) 104 128 W vo (.slice none 0 0) out []/\out.length<=n/\n<=65537 /\
  (if (cutNL t).2.2=true then ls (n+1) (cutNL t).2.1 out else .ok out)=tok s
def LX (w:World) (s:Bs) (W:World):Prop :=
 ∃ L C:Nat,tok s = .error (L,C)/\W.heap[w.heap.size]?=some (.cells #[.slice none 0 0] 65 (0,0))/\W.heap[w.heap.size+1]?=some (.cells #[.int .i64 (L:Int),.int .i64 (C:Int)] 39 (0,0)) /\
  W.heap[w.heap.size+1+1]?=some (.cells #[.int .i64 4] 29 (0,0))/\Below w.heap.size w W
theorem keep_cells {B k:Nat} {W W':World} {row:Option Nat} {cs:Array Value} {t:TypeId} (h:W.heap[k]?=some (.cells cs t (0,0))) (hg:W.grownBy W' row)
  (hr:∀ r,row=some r->B<=r/\∃ o:Obj,W.heap[r]?=some o/\o.isCells=false):W'.heap[k]?=some (.cells cs t (0,0)):=by
 refine (hg.block k (Array.getElem?_eq_some_iff.1 h).1 fun e=>?_).trans h
 obtain ⟨_,o,ho,hc⟩:=hr k e.symm
 rw [h] at ho
 cases ho
 cases hc
theorem Five.ab {w:World} {vo:Value} {t:Bs} {m:Int} {W W':World} {row:Option Nat} {B:Nat} (h:Five w vo t m W) (hB:w.heap.size<=B) (h0:0<w.heap.size) (hg:W.grownBy W' row)
  (hr:∀ r,row=some r->B<=r/\∃ o:Obj,W.heap[r]?=some o/\o.isCells=false):Five w vo t m W':=by
 refine ⟨keep_cells h.b0 hg hr,keep_cells h.b1 hg hr,keep_cells h.b2 hg hr,keep_cells h.b3 hg hr,keep_cells h.b4 hg hr,?_,h.bel.grown hg h.bel.size (fun k e=>Nat.le_trans hB (hr k e).1)⟩
 exact hg.cell h.g (fun e=>by have:=(hr 0 e.symm).1;omega)
theorem heap_setCell_at {W:World} {k:Nat} {t:TypeId} (i:Nat) (v:Value) {cs:Array Value} (h:W.heap[k]?=some (.cells cs t (0,0))) :
  (W.setCell ⟨k,i,none⟩ v).heap[k]?=some (.cells (cs.setIfInBounds i v) t (0,0)):=by
 obtain ⟨hlt,hh⟩:=Array.getElem?_eq_some_iff.1 h
 show (W.heap.modify k _)[k]?=_
 rw [Array.getElem?_modify,if_pos rfl,h]
 rfl
theorem LK.next {w:World} {m:Int} {s:Bs} {n:Nat} {t:Bs} {W:World} (h0:0<w.heap.size) (h:LK w m s n t W) (hm:(cutNL t).2.2=true) :
  LI w m s (n+1) (cutNL t).2.1 (W.setCell ⟨w.heap.size+1+1+1+1,0,none⟩ (.string ⟨(cutNL t).2.1.toArray⟩)):=by
 obtain ⟨vo,out,h5,ha,hn,_,hl⟩:=h
 rw [if_pos hm] at hl
 have hf:∀ k,k ≠ w.heap.size+1+1+1+1->(W.setCell ⟨w.heap.size+1+1+1+1,0,none⟩ (.string ⟨(cutNL t).2.1.toArray⟩)).heap[k]?=W.heap[k]?:=fun k hk=>Below.heap_setCell _ _ _ _ hk
 refine ⟨vo,out,⟨(hf _ (by omega)).trans h5.b0,(hf _ (by omega)).trans h5.b1,(hf _ (by omega)).trans h5.b2,(hf _ (by omega)).trans h5.b3,?_,(World.cell?_of_block (a:=⟨0,0,none⟩) (hf 0 (by omega))).trans h5.g,h5.bel.setCell (by show w.heap.size<=w.heap.size+1+1+1+1;omega) _⟩,ha.keep fun k hk _=>hf k (by omega),hl,by omega⟩
 have hlt:=(Array.getElem?_eq_some_iff.1 h5.b4).1
 exact heap_setCell_at 0 _ h5.b4
theorem ls_eq (n:Nat) (t:Bs) (out:List (List Wd)):ls n t out =
  match lt n (cutNL t).1 0 none [] with
  | .error i => .error (n,i+1)
  | .ok ws=>if (cutNL t).2.2=true then ls (n+1) (cutNL t).2.1 (addL out ws) else .ok (addL out ws):=by
 conv=>lhs;unfold ls
 cases lt n (cutNL t).1 0 none [] with
 | error i=>rfl
 | ok ws=>rfl
theorem Five.stay {w:World} {m:Int} {s:Bs} {n:Nat} {t:Bs} {W:World} {vo vw:Value} {out:List (List Wd)} (h5:Five w vo t m W) (ha:Acc (w.heap.size+7) 104 128 W vo vw out [])
  (hl:ls n t out=tok s) (hn:out.length+1<=n) (hn2:n<=65537) (e:lt n (cutNL t).1 0 none [] = .ok []):LK w m s n t W:=by
 refine ⟨vo,out,h5,ha.drop,by omega,hn2,?_⟩
 rw [<- hl,ls_eq n t out,e]
 rfl
theorem LK.add {w:World} {m:Int} {s:Bs} {n:Nat} {t:Bs} {W w4:World} {vo vo' vw:Value} {out:List (List Wd)} {ws:List Wd} {o:Obj} {us:List Value} (h0:0<w.heap.size) (h5:Five w vo t m W) (ha:Acc (w.heap.size+7) 104 128 W vo vw out ws) (hw:ws ≠ [])
  (hl:ls n t out=tok s) (hn:out.length+1<=n) (hn2:n<=65537) (e:lt n (cutNL t).1 0 none [] = .ok ws)
  (hg:(W.alloc o).grownBy w4 vo.ownBlock) (hus:W.ownsRow (w.heap.size+7) 104 1 vo out.length us) (ho:w4.ownsRow (w.heap.size+7) 104 1 vo' (out.length+1) (us++[vw])) (hv:vo'.ownBlock=vo.ownBlock\/vo'.ownBlock=some (W.alloc o).heap.size)
  (hs:w.heap.size+7<=W.heap.size) :
  (∀ k,k<w.heap.size+7->k ≠ w.heap.size+1+1+1->(w4.setCell ⟨w.heap.size+1+1+1,0,none⟩ vo').heap[k]?=W.heap[k]?)/\LK w m s n t (w4.setCell ⟨w.heap.size+1+1+1,0,none⟩ vo'):=by
 have hga:=(World.grownBy_alloc W o vo.ownBlock).trans hg
 have hb:∀ k,k<w.heap.size+7->w4.heap[k]?=W.heap[k]?:=fun k hk=>hga.block k (by omega) fun e=>by have:=(hus.lt k e.symm).1;omega
 have hf:∀ k,k ≠ w.heap.size+1+1+1->(w4.setCell ⟨w.heap.size+1+1+1,0,none⟩ vo').heap[k]?=w4.heap[k]?:=fun k hk=>Below.heap_setCell _ _ _ _ hk
 refine ⟨fun k hk hk'=>(hf k hk').trans (hb k hk),vo',out++[ws],?_,?_,by simp;omega,hn2,?_⟩
 ·refine ⟨(hf _ (by omega)).trans ((hb _ (by omega)).trans h5.b0),(hf _ (by omega)).trans ((hb _ (by omega)).trans h5.b1),(hf _ (by omega)).trans ((hb _ (by omega)).trans h5.b2),heap_setCell_at 0 _ ((hb _ (by omega)).trans h5.b3),(hf _ (by omega)).trans ((hb _ (by omega)).trans h5.b4),
   (World.cell?_of_block (a:=⟨0,0,none⟩) ((hf 0 (by omega)).trans (hb 0 (by omega)))).trans h5.g,?_⟩
  exact (h5.bel.grown hga (by omega) (fun k hk=>by have:=(hus.lt k hk).1;omega)).setCell (by show w.heap.size<=w.heap.size+1+1+1;omega) _
 ·exact (ha.line hg hus ho hv).keep fun k hk _=>hf k (by omega)
 ·rw [<- hl,ls_eq n t out,e]
  simp only [addL,if_neg hw]
theorem Five.moved {w:World} {vo:Value} {t:Bs} {m:Int} {W wo:World} (h:Five w vo t m W) (h0:0<w.heap.size) (hkb:∀ k,k<w.heap.size+7->wo.heap[k]?=W.heap[k]?) (hbel:Below w.heap.size w wo):Five w vo t m wo :=
 ⟨(hkb _ (by omega)).trans h.b0,(hkb _ (by omega)).trans h.b1,(hkb _ (by omega)).trans h.b2,(hkb _ (by omega)).trans h.b3,(hkb _ (by omega)).trans h.b4,(World.cell?_of_block (a:=⟨0,0,none⟩) (hkb 0 (by omega))).trans h.g,hbel⟩
theorem Five.bad {w:World} {vo:Value} {t s:Bs} {m:Int} {W:World} {n i:Nat} (h:Five w vo t m W) (e:tok s = .error (n,i+1)) :
  (∀ k,w.heap.size+1+1<k->((((W.setCell ⟨w.heap.size,0,none⟩ (.slice none 0 0)).setCell ⟨w.heap.size+1,0,none⟩ (.int .i64 (n:Int))).setCell ⟨w.heap.size+1,1,none⟩ (.int .i64 (1+(i:Int)))).setCell ⟨w.heap.size+1+1,0,none⟩ (.int .i64 4)).heap[k]?=W.heap[k]?) /\
   LX w s ((((W.setCell ⟨w.heap.size,0,none⟩ (.slice none 0 0)).setCell ⟨w.heap.size+1,0,none⟩ (.int .i64 (n:Int))).setCell ⟨w.heap.size+1,1,none⟩ (.int .i64 (1+(i:Int)))).setCell ⟨w.heap.size+1+1,0,none⟩ (.int .i64 4)):=by
 have f1:∀ (A:World) k i v j,j ≠ k->(A.setCell ⟨k,i,none⟩ v).heap[j]?=A.heap[j]?:=fun A k i v j hj=>Below.heap_setCell _ _ _ _ hj
 refine ⟨fun k hk=>(f1 _ _ _ _ _ (by omega)).trans ((f1 _ _ _ _ _ (by omega)).trans ((f1 _ _ _ _ _ (by omega)).trans (f1 _ _ _ _ _ (by omega)))),n,i+1,e,?_,?_,?_,?_⟩
 ·exact (f1 _ _ _ _ _ (by omega)).trans ((f1 _ _ _ _ _ (by omega)).trans ((f1 _ _ _ _ _ (by omega)).trans (heap_setCell_at 0 _ h.b0)))
 ·rw [show ((i+1:Nat):Int)=1+(i:Int) by omega]
  exact (f1 _ _ _ _ _ (by omega)).trans (heap_setCell_at 1 _ (heap_setCell_at 0 _ ((f1 _ _ _ _ _ (by omega)).trans h.b1)))
 ·exact heap_setCell_at 0 _ ((f1 _ _ _ _ _ (by omega)).trans ((f1 _ _ _ _ _ (by omega)).trans ((f1 _ _ _ _ _ (by omega)).trans h.b2)))
 ·exact (((h.bel.setCell (by show w.heap.size<=w.heap.size;omega) _).setCell (by show w.heap.size<=w.heap.size+1;omega) _).setCell (by show w.heap.size<=w.heap.size+1;omega) _).setCell (by show w.heap.size<=w.heap.size+1+1;omega) _
theorem extract_toList (sb:ByteArray) (f i:Nat):(sb.extract f i).data.toList=(sb.data.toList.drop f).take (i - f):=by
 rw [Lib.extract_data]
end Go.Proofs.YtoofbgoeipijcaaGreatDoor
