/-
 Words in memory: slices of words, slices of such slices; two lists of a call's own that grow, the words of a line and the lines. A scope inside a fence; append inside a fence.
-/
import Derived.Test.YtbijamcoibonkaaDoorCB1
import Derived.Test.YtbijamcoibonkaaDoorProg
import Derived.Maps.OwnIn
import Derived.CallsIn
import Derived.RangeFuncNested
import Derived.RangeFuncBound
import Derived.RangeFuncCalls
import Derived.RangeFuncLeaves
import Derived.RangeFuncWrites
import Derived.Shelf.RegionOpen
import Derived.OwnWalkIn
import Derived.TacticsInMore
import Derived.LoopNIn
import Derived.LoopIn
namespace Go.Proofs.YtbijamcoibonkaaDoor
set_option linter.unusedSimpArgs false
set_option linter.unusedVariables false
open Go.RowKit
section
variable {P:Program} {b:Frame} {a:Act} {k:List Item} {cs:List Frame} {w:World} {Q:Exit→Act→World→Prop} {F:Fence} {n:Nat}
theorem stepR_scope {c:Code}:step P (lone (b.atR a (.code (.scope c) :: k)) cs w) = .next (lone (b.atR a (.code c :: .inScope c :: k)) cs w) :=
 step_lone_go (by simp [stepG,stepG.exec,Frame.atR])
theorem stepR_inScope {c:Code}:step P (lone (b.atR a (.inScope c :: k)) cs w) = .next (lone (b.atR a k) cs w) :=
 step_lone_go (by simp [stepG,stepG.exec,Frame.atR])
theorem wpIn_scope {c:Code} (h:c.wpIn F n P (Exit.noGoto Q) a w):(Code.scope c).wpIn F n P Q a w:=by
 intro b k cs hro hb hr
 have h0:(lone (b.atR a (.code (.scope c) :: k)) cs w).fenced P F:=fenced_calm hb hr rfl
 obtain ⟨e,a₁,w₁,hq,harr⟩:=h b (.inScope c :: k) cs hro hb hr
 cases e with
 | normal=>exact ⟨.normal,a₁,w₁,hq,.head h0 stepR_scope (StepsIn.trans harr (.one (fenced_calm hb hr rfl) stepR_inScope))⟩
 | exit id =>
  have hx:exitTo id (.inScope c :: k)=exitTo id k:=by simp [exitTo]
  exact ⟨.exit id,a₁,w₁,hq,fun k' hk => .head h0 stepR_scope (harr.1 k' (by rw [hx];exact hk)),
   fun hr' hk=>let ⟨k₁,h1,h2⟩:=harr.2 hr' (by rw [hx];exact hk);⟨k₁,h1,.head h0 stepR_scope h2⟩⟩
 | goto l=>exact hq.elim
 | ret=>exact ⟨_,a₁,w₁,hq,.of_steps (.one h0 stepR_scope) harr⟩
 | panic ch=>exact ⟨_,a₁,w₁,hq,.of_steps (.one h0 stepR_scope) harr⟩
 | outgrown=>exact ⟨_,a₁,w₁,hq,.of_steps (.one h0 stepR_scope) harr⟩
end
section
variable {P:Program} (w:World)
theorem run_appG {R:Nat→Prop} (base:Nat) (t ty e:TypeId) (z:Value) (size bytes:Nat) (ht:P.underlying t=some (.slice e))
  (hinfo:(P.info? e).map (fun i=>(i.zero,i.size,i.bytes))=some (some z,size,bytes)) (hzs:z.cells.size=size) (hpos:0<size)
  (v:Value) (n:Nat) (xs:List Value) (hown:w.ownsRow base e size v n xs)
  (p:Addr) (m c:Nat) (news:List Value) (hm:news.length=m*size) (hr:RowR R w (some p) news) (h1:∀ u ∈ news,u.oneCell'=true)
  (hsz:(n+m)*bytes≤140737488355328) (h63:n+m≤maxLen) (hbase:base≤w.heap.size) :
  ∃ v' w',(Builtin.append_ #[t,t] ty #[v,.slice (some p) m c]).run P w = .ok v' w'∧w'.ownsRow base e size v' (n+m) (xs++news)∧w.grownBy w' v.ownBlock ∧
   (v'.ownBlock=v.ownBlock∨v'.ownBlock=some w.heap.size):=by
 obtain ⟨i,hi,hz,hs1,hby⟩:=info_parts hinfo
 have hcells:∀ j u,news[j]?=some u→w.cell? (p.add j)=some u:=by
  intro j u hu
  obtain ⟨hj,rfl⟩:=List.getElem?_eq_some_iff.1 hu
  obtain ⟨b,off,h,_,hc⟩:=hr.at j hj
  injection h with h
  subst h
  have hadd:(⟨b,off,none⟩:Addr).add j=⟨b,off+j,none⟩:=by unfold Addr.add;split <;> simp_all
  rw [hadd]
  exact hc j hj
 obtain ⟨v',w',hrun,h2,h3,_,h5⟩:=run_append_own_at (P:=P) w base t ty e i z size bytes ht hi hz hs1 hby hzs hpos v n xs hown p m c news hm hcells h1 h63 hsz hbase
 exact ⟨v',w',hrun,h2,h3,h5⟩
theorem wpListIn_appG {F:Fence} {nF:Nat} {R:Nat→Prop} {ops:Array Oper} {rest:List Oper} {o:Oper} {a:Act} {Q:Exit→Act→World→Prop} (hgd:o.guard=none) (s x:Operand) (t:TypeId)
  (ho:o.op = .call { callee := .builtin .append,args:=#[s,x],argTypes:=#[t,t] })
  (base:Nat) (e:TypeId) (z:Value) (size bytes:Nat) (ht:P.underlying t=some (.slice e))
  (hinfo:(P.info? e).map (fun i=>(i.zero,i.size,i.bytes))=some (some z,size,bytes)) (hzs:z.cells.size=size) (hpos:0<size)
  (v:Value) (n:Nat) (xs:List Value) (hs:a.eval s=v) (hown:w.ownsRow base e size v n xs)
  (p:Addr) (m c:Nat) (news:List Value) (hx:a.eval x = .slice (some p) m c) (hm:news.length=m*size) (hr:RowR R w (some p) news) (h1:∀ u ∈ news,u.oneCell'=true)
  (hsz:(n+m)*bytes≤140737488355328) (h63:n+m≤maxLen) (hbase:base≤w.heap.size)
  (h:∀ v' w',w'.ownsRow base e size v' (n+m) (xs++news)→w.grownBy w' v.ownBlock→(v'.ownBlock=v.ownBlock∨v'.ownBlock=some w.heap.size)→wpListIn F nF P ops Q rest (a.put o.dst v') w'):wpListIn F nF P ops Q (o :: rest) a w:=by
 refine wpListIn_plain hgd fun K hK=>?_
 obtain ⟨v',w',hrun,h2,h3,h4⟩:=run_appG (P:=P) w base t o.type e z size bytes ht hinfo hzs hpos v n xs hown p m c news hm hr h1 hsz h63 hbase
 unfold Oper.wpIn
 refine ⟨by simp [Oper.about,ho,resolve,Target.leads,Sem.run_pure],?_⟩
 rw [Oper.semAt_plain F _ _ (by rw [ho];intro c hc';cases hc')]
 simp [execOp,ho,resolve,invoke,builtin,hs,hx,hrun,Result.andThen]
 exact hK _ _ (h v' w' h2 h3 h4)
theorem wpList_appG {R:Nat→Prop} {ops:Array Oper} {rest:List Oper} {o:Oper} {a:Act} {Q:Exit→Act→World→Prop} (hgd:o.guard=none) (s x:Operand) (t:TypeId)
  (ho:o.op = .call { callee := .builtin .append,args:=#[s,x],argTypes:=#[t,t] })
  (base:Nat) (e:TypeId) (z:Value) (size bytes:Nat) (ht:P.underlying t=some (.slice e))
  (hinfo:(P.info? e).map (fun i=>(i.zero,i.size,i.bytes))=some (some z,size,bytes)) (hzs:z.cells.size=size) (hpos:0<size)
  (v:Value) (n:Nat) (xs:List Value) (hs:a.eval s=v) (hown:w.ownsRow base e size v n xs)
  (p:Addr) (m c:Nat) (news:List Value) (hx:a.eval x = .slice (some p) m c) (hm:news.length=m*size) (hr:RowR R w (some p) news) (h1:∀ u ∈ news,u.oneCell'=true)
  (hsz:(n+m)*bytes≤140737488355328) (h63:n+m≤maxLen) (hbase:base≤w.heap.size)
  (h:∀ v' w',w'.ownsRow base e size v' (n+m) (xs++news)→w.grownBy w' v.ownBlock→(v'.ownBlock=v.ownBlock∨v'.ownBlock=some w.heap.size)→wpList P ops Q rest (a.put o.dst v') w'):wpList P ops Q (o :: rest) a w:=by
 refine wpList_plain hgd fun _ hK=>?_
 obtain ⟨v',w',hrun,h2,h3,h4⟩:=run_appG (P:=P) w base t o.type e z size bytes ht hinfo hzs hpos v n xs hown p m c news hm hr h1 hsz h63 hbase
 unfold Oper.wp execOp
 simp only [ho,resolve,invoke,builtin,Sem.run_bind,Sem.run_pure,Result.andThen_ok,List.map_toArray,List.map_cons,List.map_nil,hs,hx,hrun]
 exact hK _ _ (h v' w' h2 h3 h4)
end
def wcells (x:Wd):List Value:=[.string ⟨x.1.toArray⟩,.int .i64 (x.2.1:Int),.int .i64 (x.2.2:Int)]
def wflat (ws:List Wd):List Value:=ws.flatMap wcells
theorem wflat_len (ws:List Wd):(wflat ws).length=ws.length*3:=by
 induction ws with
 | nil=>rfl
 | cons x r ih=>simp only [wflat,List.flatMap_cons,List.length_append] at ih ⊢;rw [ih];simp [wcells];omega
theorem wflat_append (a b:List Wd):wflat (a++b)=wflat a++wflat b:=List.flatMap_append
theorem wflat_one (x:Wd):wflat [x]=wcells x:=by simp [wflat]
theorem wflat_at:∀ (ws:List Wd) (k i:Nat) (hk:k<ws.length) (hi:i<3),(wflat ws)[k*3+i]?=(wcells ws[k])[i]?
 | [],k,i,hk,_=>absurd hk (by simp)
 | x :: r,0,i,_,hi=>by
  simp only [wflat,List.flatMap_cons]
  rw [List.getElem?_append_left (by simp [wcells];omega)];simp
 | x :: r,k+1,i,hk,hi=>by
  have:=wflat_at r k i (by simpa using hk) hi
  simp only [wflat,List.flatMap_cons] at this ⊢
  rw [List.getElem?_append_right (by simp [wcells];omega)]
  rw [show (k+1)*3+i - (wcells x).length=k*3+i by simp [wcells];omega]
  simpa using this
def Wds (R:Nat→Prop) (w:World) (v:Value) (ws:List Wd):Prop :=
 ∃ p c,v = .slice p ws.length c∧ws.length≤c∧c≤maxLen∧RowR R w p (wflat ws)
theorem Wds.keep {R R':Nat→Prop} {w w':World} {v:Value} {ws:List Wd} (h:Wds R w v ws) (hf:∀ k,R k→R' k∧w'.heap[k]?=w.heap[k]?):Wds R' w' v ws :=
 let ⟨p,c,e,h1,h2,hr⟩:=h;⟨p,c,e,h1,h2,hr.keep hf⟩
theorem Wds.nil {R:Nat→Prop} {w:World}:Wds R w (.slice none 0 0) []:=⟨none,0,rfl,Nat.le_refl _,Nat.zero_le _,.inl rfl⟩
theorem RowR.atW {R:Nat→Prop} {w:World} {p:Option Addr} {ws:List Wd} (h:RowR R w p (wflat ws)) (k:Nat) (hk:k<ws.length) :
  ∃ b off,p=some ⟨b,off,none⟩∧R b∧∀ j (hj:j<ws.length),w.cell? ⟨b,off+j*3,none⟩=some (.string ⟨ws[j].1.toArray⟩)∧w.cell? ⟨b,off+j*3+1,none⟩=some (.int .i64 (ws[j].2.1:Int))∧w.cell? ⟨b,off+j*3+2,none⟩=some (.int .i64 (ws[j].2.2:Int)):=by
 obtain ⟨b,off,e,hR,hc⟩:=h.at (k*3) (by rw [wflat_len];omega)
 refine ⟨b,off,e,hR,fun j hj=>?_⟩
 have g:∀ i,i<3→∀ u,(wcells ws[j])[i]?=some u→w.cell? ⟨b,off+(j*3+i),none⟩=some u:=fun i hi u hu=>by
  have hl:j*3+i<(wflat ws).length:=by rw [wflat_len];omega
  rw [hc (j*3+i) hl]
  have:=wflat_at ws j i hj hi
  rw [List.getElem?_eq_getElem hl,hu] at this
  exact this
 exact ⟨g 0 (by omega) _ rfl,by have:=g 1 (by omega) _ rfl;rwa [← Nat.add_assoc] at this,by have:=g 2 (by omega) _ rfl;rwa [← Nat.add_assoc] at this⟩
def Soft (w:World) (k:Nat):Prop:=∃ cs t,w.heap[k]?=some (.cells cs t (0,0))
theorem Soft.size {w:World} {k:Nat} (h:Soft w k):k<w.heap.size:=by
 obtain ⟨cs,t,h⟩:=h
 exact (Array.getElem?_eq_some_iff.1 h).1
theorem Soft.keep {w w':World} {k:Nat} (h:Soft w k) (e:w'.heap[k]?=w.heap[k]?):Soft w' k:=by
 obtain ⟨cs,t,h⟩:=h
 exact ⟨cs,t,e.trans h⟩
theorem Soft.frozen {w:World} {k i:Nat} (h:Soft w k):w.frozen? ⟨k,i,none⟩=false:=by
 obtain ⟨cs,t,h⟩:=h
 simp [World.frozen?,h]
theorem Wds.of_owns {R:Nat→Prop} {w:World} {base e:Nat} {v:Value} {ws:List Wd} (h:w.ownsRow base e 3 v ws.length (wflat ws)) (hR:∀ k,v.ownBlock=some k→base≤k→Soft w k→R k):Wds R w v ws:=by
 obtain ⟨hl,h2⟩:=h
 rcases h2 with ⟨rfl,h0⟩ | ⟨g,cap,cur,rfl,hb,hg,hnc,hcm,hcs,ht⟩
 ·obtain rfl:=List.eq_nil_of_length_eq_zero h0
  exact Wds.nil
 ·refine ⟨_,cap,rfl,hnc,hcm,.inr ⟨g,0,rfl,hR g rfl hb ⟨cur,e,hg⟩,fun j hj=>?_⟩⟩
  rw [Nat.zero_add,cell_of_row w g j cur e (0,0) hg]
  have e1:(cur.toList.take (ws.length*3))[j]?=some (wflat ws)[j]:=by rw [ht];exact List.getElem?_eq_getElem hj
  rw [List.getElem?_take] at e1
  split at e1
  ·simpa using e1
  ·cases e1
def WLL (R:Nat→Prop) (w:World) (v:Value) (ls:List (List Wd)):Prop :=
 ∃ vs,Sl R w v vs∧vs.length=ls.length∧∀ i (h:i<ls.length) (h':i<vs.length),Wds R w vs[i] ls[i]
theorem WLL.keep {R R':Nat→Prop} {w w':World} {v:Value} {ls:List (List Wd)} (h:WLL R w v ls) (hf:∀ k,R k→R' k∧w'.heap[k]?=w.heap[k]?):WLL R' w' v ls :=
 let ⟨vs,h1,h2,h3⟩:=h;⟨vs,h1.keep hf,h2,fun i hi hi'=>(h3 i hi hi').keep hf⟩
theorem owns_keepG {base e sz n:Nat} {w w':World} {v:Value} {xs:List Value} (h:w.ownsRow base e sz v n xs) (hf:∀ j,v.ownBlock=some j→w'.heap[j]?=w.heap[j]?):w'.ownsRow base e sz v n xs:=by
 obtain ⟨hl,h2⟩:=h
 refine ⟨hl,?_⟩
 rcases h2 with h2 | ⟨g,cap,cur,rfl,hb,hg,hr⟩
 ·exact .inl h2
 ·exact .inr ⟨g,cap,cur,rfl,hb,(hf g rfl).trans hg,hr⟩
theorem owns_soft {base e sz n:Nat} {w:World} {v:Value} {xs:List Value} (h:w.ownsRow base e sz v n xs):∀ j,v.ownBlock=some j→Soft w j:=by
 intro j hj
 obtain ⟨hl,h2⟩:=h
 rcases h2 with ⟨rfl,_⟩ | ⟨g,cap,cur,rfl,hb,hg,hr⟩
 ·cases hj
 ·cases hj;exact ⟨cur,e,hg⟩
def Rw (B:Nat) (w:World) (X:Nat→Prop) (vs:List Value) (out:List (List Wd)):Prop :=
 (∀ i (h:i<out.length) (h':i<vs.length),Wds (fun k=>vs[i].ownBlock=some k) w vs[i] out[i])∧(∀ v ∈ vs,∀ k,v.ownBlock=some k→B≤k∧Soft w k∧X k)∧vs.Pairwise (fun a b=>∀ k,a.ownBlock=some k→b.ownBlock ≠ some k)
theorem Rw.nil {B:Nat} {w:World} {X:Nat→Prop}:Rw B w X [] []:=⟨fun i h=>absurd h (by simp),fun v h=>absurd h (by simp),List.Pairwise.nil⟩
theorem Rw.keep {B:Nat} {w w':World} {X X':Nat→Prop} {vs:List Value} {out:List (List Wd)} (h:Rw B w X vs out) (hf:∀ k,B≤k→Soft w k→X k→w'.heap[k]?=w.heap[k]?∧X' k):Rw B w' X' vs out:=by
 obtain ⟨h1,h2,h3⟩:=h
 refine ⟨fun i hi hi'=>(h1 i hi hi').keep fun k hk=>?_,fun v hv k hk=>?_,h3⟩
 ·obtain ⟨a,b,c⟩:=h2 _ (List.getElem_mem hi') k hk
  exact ⟨hk,(hf k a b c).1⟩
 ·obtain ⟨a,b,c⟩:=h2 v hv k hk
  obtain ⟨d,e⟩:=hf k a b c
  exact ⟨a,b.keep d,e⟩
theorem Rw.snoc {B:Nat} {w:World} {X:Nat→Prop} {vs:List Value} {out:List (List Wd)} {v:Value} {ws:List Wd} (h:Rw B w X vs out) (hl:vs.length=out.length) (hw:Wds (fun k=>v.ownBlock=some k) w v ws) (hv:∀ k,v.ownBlock=some k→B≤k∧Soft w k∧X k) (hne:∀ u ∈ vs,∀ k,u.ownBlock=some k→v.ownBlock ≠ some k):Rw B w X (vs++[v]) (out++[ws]):=by
 obtain ⟨h1,h2,h3⟩:=h
 refine ⟨fun i hi hi'=>?_,fun u hu k hk=>?_,?_⟩
 ·by_cases hi2:i<out.length
  ·have e1:(vs++[v])[i]'hi'=vs[i]'(by omega):=List.getElem_append_left (by omega)
   have e2:(out++[ws])[i]'hi=out[i]:=List.getElem_append_left hi2
   rw [e1,e2]
   exact h1 i hi2 (by omega)
  ·have hie:i=out.length:=by simp at hi;omega
   subst hie
   have e1:(vs++[v])[out.length]'hi'=v:=by simp [hl]
   have e2:(out++[ws])[out.length]'hi=ws:=by simp
   rw [e1,e2]
   exact hw
 ·rcases List.mem_append.1 hu with hu | hu
  ·exact h2 u hu k hk
  ·rw [List.mem_singleton] at hu;subst hu;exact hv k hk
 ·refine List.pairwise_append.2 ⟨h3,List.pairwise_singleton _ _,fun a ha b hb k hk=>?_⟩
  rw [List.mem_singleton] at hb
  subst hb
  exact hne a ha k hk
structure Acc (B eo ew:Nat) (w:World) (vo vw:Value) (out:List (List Wd)) (ws:List Wd):Prop where
 lines:∃ vs:List Value,w.ownsRow B eo 1 vo out.length vs∧vs.length=out.length∧Rw B w (fun k=>vo.ownBlock ≠ some k∧vw.ownBlock ≠ some k) vs out
 words:w.ownsRow B ew 3 vw ws.length (wflat ws)
 ne:∀ k,vo.ownBlock=some k→vw.ownBlock ≠ some k
theorem Acc.nil (B eo ew:Nat) (w:World):Acc B eo ew w (.slice none 0 0) (.slice none 0 0) [] [] :=
 ⟨⟨[],World.ownsRow_nil _ _ _ _,rfl,Rw.nil⟩,World.ownsRow_nil _ _ _ _,fun k h=>by cases h⟩
theorem Acc.keep {B eo ew:Nat} {w w':World} {vo vw:Value} {out:List (List Wd)} {ws:List Wd} (h:Acc B eo ew w vo vw out ws) (hf:∀ k,B≤k→Soft w k→w'.heap[k]?=w.heap[k]?):Acc B eo ew w' vo vw out ws:=by
 obtain ⟨⟨vs,h1,h2,h3⟩,h4,h5⟩:=h
 refine ⟨⟨vs,owns_keepG h1 fun j hj=>hf j (h1.lt j hj).1 (owns_soft h1 j hj),h2,h3.keep fun k hb hs hx=>⟨hf k hb hs,hx⟩⟩,owns_keepG h4 fun j hj=>hf j (h4.lt j hj).1 (owns_soft h4 j hj),h5⟩
theorem Acc.grown {B eo ew:Nat} {w w':World} {vo vw:Value} {out:List (List Wd)} {ws:List Wd} (h:Acc B eo ew w vo vw out ws) {row:Option Nat} (hg:w.grownBy w' row) (hr:∀ r,row=some r→∃ o:Obj,w.heap[r]?=some o∧o.isCells=false):Acc B eo ew w' vo vw out ws :=
 h.keep fun k _ hk=>hg.block k hk.size fun e=>by
  obtain ⟨o,ho,hc⟩:=hr k e.symm
  obtain ⟨cs,t,hh⟩:=hk
  rw [hh] at ho
  cases ho
  cases hc
theorem Acc.alloc {B eo ew:Nat} {w:World} {vo vw:Value} {out:List (List Wd)} {ws:List Wd} (h:Acc B eo ew w vo vw out ws) (o:Obj):Acc B eo ew (w.alloc o) vo vw out ws:=h.grown (World.grownBy_alloc w o none) (fun r e=>by cases e)
theorem Acc.drop {B eo ew:Nat} {w:World} {vo vw:Value} {out:List (List Wd)} {ws:List Wd} (h:Acc B eo ew w vo vw out ws):Acc B eo ew w vo (.slice none 0 0) out []:=by
 obtain ⟨⟨vs,h1,h2,h3⟩,h4,h5⟩:=h
 exact ⟨⟨vs,h1,h2,h3.keep fun k _ _ hx=>⟨rfl,hx.1,fun e=>by cases e⟩⟩,World.ownsRow_nil _ _ _ _,fun k _ e=>by cases e⟩
theorem Acc.push {B eo ew:Nat} {w w':World} {vo vw vw':Value} {out:List (List Wd)} {ws:List Wd} {x:Wd} {o:Obj} (h:Acc B eo ew w vo vw out ws) (hg:(w.alloc o).grownBy w' vw.ownBlock)
  (ho:w'.ownsRow B ew 3 vw' (ws.length+1) (wflat ws++wcells x)) (hv:vw'.ownBlock=vw.ownBlock∨vw'.ownBlock=some (w.alloc o).heap.size):Acc B eo ew w' vo vw' out (ws++[x]):=by
 have hga:=(World.grownBy_alloc w o vw.ownBlock).trans hg
 obtain ⟨⟨vs,h1,h2,h3⟩,h4,h5⟩:=h
 have hn:∀ k,k<w.heap.size→vw.ownBlock ≠ some k→w'.heap[k]?=w.heap[k]?∧vw'.ownBlock ≠ some k:=fun k hk hne=>by
  refine ⟨hga.block k hk fun e=>hne e.symm,fun e=>?_⟩
  rcases hv with e' | e'
  ·exact hne (e'.symm.trans e)
  ·rw [e'] at e;rw [World.size_alloc] at e;cases e;omega
 refine ⟨⟨vs,owns_keepG h1 fun j hj=>(hn j (h1.lt j hj).2 (h5 j hj)).1,h2,h3.keep fun k _ hs hx=>⟨(hn k hs.size hx.2).1,hx.1,(hn k hs.size hx.2).2⟩⟩,?_,fun k hk=>(hn k (h1.lt k hk).2 (h5 k hk)).2⟩
 ·rw [wflat_append,wflat_one,List.length_append]
  exact ho
theorem own_sliceG {base e sz n:Nat} {w:World} {v:Value} {xs:List Value} (h:w.ownsRow base e sz v n xs):∃ p c,v = .slice p n c:=by
 rcases h.2 with ⟨rfl,h0⟩ | ⟨g,cap,cur,rfl,_⟩
 ·exact ⟨none,0,by rw [h0]⟩
 ·exact ⟨_,_,rfl⟩
theorem owns_unique {base e sz n:Nat} {w:World} {v:Value} {xs ys:List Value} (h:w.ownsRow base e sz v n xs) (h':w.ownsRow base e sz v n ys):xs=ys:=by
 obtain ⟨hl,h2⟩:=h
 obtain ⟨hl',h2'⟩:=h'
 rcases h2 with ⟨rfl,h0⟩ | ⟨g,cap,cur,rfl,hb,hg,hnc,hcm,hcs,ht⟩
 ·subst h0
  rw [Nat.zero_mul] at hl hl'
  rw [List.eq_nil_of_length_eq_zero hl,List.eq_nil_of_length_eq_zero hl']
 ·rcases h2' with ⟨e1,_⟩ | ⟨g',cap',cur',e1,hb',hg',hnc',hcm',hcs',ht'⟩
  ·cases e1
  ·cases e1
   rw [hg] at hg'
   cases hg'
   rw [← ht,← ht']
theorem Acc.line {B eo ew:Nat} {w w':World} {vo vo' vw:Value} {out:List (List Wd)} {ws:List Wd} {o:Obj} (h:Acc B eo ew w vo vw out ws) (hg:(w.alloc o).grownBy w' vo.ownBlock)
  {us:List Value} (hus:w.ownsRow B eo 1 vo out.length us) (ho:w'.ownsRow B eo 1 vo' (out.length+1) (us++[vw])) (hv:vo'.ownBlock=vo.ownBlock∨vo'.ownBlock=some (w.alloc o).heap.size):Acc B eo ew w' vo' (.slice none 0 0) (out++[ws]) []:=by
 have hga:=(World.grownBy_alloc w o vo.ownBlock).trans hg
 obtain ⟨⟨vs,h1,h2,h3⟩,h4,h5⟩:=h
 obtain rfl:us=vs:=owns_unique hus h1
 have hn:∀ k,k<w.heap.size→vo.ownBlock ≠ some k→w'.heap[k]?=w.heap[k]?∧vo'.ownBlock ≠ some k:=fun k hk hne=>by
  refine ⟨hga.block k hk fun e=>hne e.symm,fun e=>?_⟩
  rcases hv with e' | e'
  ·exact hne (e'.symm.trans e)
  ·rw [e'] at e;rw [World.size_alloc] at e;cases e;omega
 refine ⟨⟨us++[vw],by rw [List.length_append];exact ho,by simp [h2],?_⟩,World.ownsRow_nil _ _ _ _,fun k _ e=>by cases e⟩
 have h3':Rw B w' (fun k=>vo'.ownBlock ≠ some k∧(Value.slice none 0 0).ownBlock ≠ some k) us out:=h3.keep fun k _ hs hx=>⟨(hn k hs.size hx.1).1,(hn k hs.size hx.1).2,fun e=>by cases e⟩
 have h4':=owns_keepG h4 fun j hj=>(hn j (h4.lt j hj).2 fun e=>h5 j e hj).1
 refine h3'.snoc h2 (Wds.of_owns (base:=B) (e:=ew) h4' fun k hk hb hs=>hk) (fun k hk=>⟨(h4.lt k hk).1,owns_soft h4' k hk,(hn k (h4.lt k hk).2 fun e=>h5 k e hk).2,fun e=>by cases e⟩) fun u hu k hk=>((h3.2.1 u hu k hk).2.2).2
theorem Acc.wll {B eo ew:Nat} {w:World} {vo vw:Value} {out:List (List Wd)} {ws:List Wd} (h:Acc B eo ew w vo vw out ws) (hl:out.length≤140737488355328):WLL (fun k=>B≤k∧Soft w k) w vo out:=by
 obtain ⟨⟨vs,h1,h2,h3⟩,h4,h5⟩:=h
 exact ⟨vs,Sl.of_owns h1 hl fun k hk=>⟨(h1.lt k hk).1,owns_soft h1 k hk⟩,h2,fun i hi hi'=>(h3.1 i hi hi').keep fun k hk=>⟨⟨(h3.2.1 _ (List.getElem_mem hi') k hk).1,(h3.2.1 _ (List.getElem_mem hi') k hk).2.1⟩,rfl⟩⟩
def WLS (B eo:Nat) (w:World) (v:Value) (out:List (List Wd)):Prop:=∃ vs,w.ownsRow B eo 1 v out.length vs∧vs.length=out.length∧Rw B w (fun k=>v.ownBlock ≠ some k) vs out
theorem owns_base {base base' e sz n:Nat} {w:World} {v:Value} {xs:List Value} (h:w.ownsRow base e sz v n xs) (hb:base'≤base):w.ownsRow base' e sz v n xs:=by
 obtain ⟨hl,h2⟩:=h
 refine ⟨hl,?_⟩
 rcases h2 with h2 | ⟨g,cap,cur,e1,hbg,hr⟩
 ·exact .inl h2
 ·exact .inr ⟨g,cap,cur,e1,Nat.le_trans hb hbg,hr⟩
theorem WLS.nil (B eo:Nat) (w:World):WLS B eo w (.slice none 0 0) []:=⟨[],World.ownsRow_nil _ _ _ _,rfl,Rw.nil⟩
theorem Acc.res {B B' eo ew:Nat} {w:World} {vo vw:Value} {out:List (List Wd)} {ws:List Wd} (h:Acc B eo ew w vo vw out ws) (hl:out.length≤140737488355328) (hb:B'≤B):WLL (fun k=>B'≤k∧Soft w k) w vo out∧WLS B' eo w vo out:=by
 refine ⟨(h.wll hl).keep fun k hk=>⟨⟨by omega,hk.2⟩,rfl⟩,?_⟩
 obtain ⟨⟨vs,h1,h2,h3⟩,h4,h5⟩:=h
 exact ⟨vs,owns_base h1 hb,h2,h3.1,fun v hv k hk=>let ⟨a,b,c⟩:=h3.2.1 v hv k hk;⟨by omega,b,c.1⟩,h3.2.2⟩
theorem Acc.vs {B eo ew:Nat} {w:World} {vo vw:Value} {out:List (List Wd)} {ws:List Wd} (h:Acc B eo ew w vo vw out ws):∃ vs,w.ownsRow B eo 1 vo out.length vs:=h.lines.imp fun _ h=>h.1
end Go.Proofs.YtbijamcoibonkaaDoor
