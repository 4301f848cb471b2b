/-
 A part.
-/
import Derived.Test.YtoofbgoeipijcaaGreatDoorVB9
namespace Go.Proofs.YtoofbgoeipijcaaGreatDoor
set_option maxRecDepth 100000
set_option maxHeartbeats 4000000
set_option linter.all false
open Go.RowKit Go.Shelf
abbrev PE (α:Type):=Except Flt α
def wpos (w:Wd):Int × Int:=((w.2.1:Int),(w.2.2:Int))
def needM (b:Bool) (pos:Int × Int) (e:Int):PE Unit:=if b then .ok () else .error (pos,e)
def nextP (f:Int × Int):List Wd->PE (Wd × List Wd)
 | [] => .error (f,4)
 | w :: r => .ok (w,r)
def endP:List Wd->PE Unit
 | [] => .ok ()
 | w :: _ => .error (wpos w,4)
def nameP (f:Int × Int) (ws:List Wd):PE (Wd × List Wd):=do
 let (w,r) <- nextP f ws
 needM (namedB w.1) (wpos w) 4
 pure (w,r)
def freshP (f:Int × Int) (had:List Bs) (ws:List Wd):PE (Bs × List Wd):=do
 let (w,r) <- nameP f ws
 needM (!had.contains w.1) (wpos w) 8
 pure (w.1,r)
def knownP (f:Int × Int) (had:List Bs) (ws:List Wd):PE (Bs × List Wd):=do
 let (w,r) <- nameP f ws
 needM (had.contains w.1) (wpos w) 6
 pure (w.1,r)
def numberP (f:Int × Int) (most:Nat) (ws:List Wd):PE (Nat × List Wd):=do
 let (w,r) <- nextP f ws
 needM (decide ((numR w.1).2=0)) (wpos w) (numR w.1).2
 needM (decide (1<=(numR w.1).1) && decide ((numR w.1).1<=most)) (wpos w) 3
 pure ((numR w.1).1,r)
def operandP (f:Int × Int) (ws:List Wd):PE (Ag × List Wd):=do
 let (w,r) <- nextP f ws
 if digB (w.1.headD 0) then
  needM (decide ((numR w.1).2=0)) (wpos w) (numR w.1).2
  pure (⟨[],(numR w.1).1⟩,r)
 else
  needM (namedB w.1) (wpos w) 4
  pure (⟨w.1,0⟩,r)
def operandsP (f:Int × Int):Nat->List Wd->PE (List Ag × List Wd)
 | 0,ws=>pure ([],ws)
 | n+1,ws=>do
  let (a,r) <- operandP f ws
  let (l,q) <- operandsP f n r
  pure (a :: l,q)
def restP (f:Int × Int):Nat->List Wd->PE (List Ag)
 | _,[]=>pure []
 | k,w :: r=>do
  needM (decide (k<32)) (wpos w) 5
  let (a,_) <- operandP f [w]
  let l <- restP f (k+1) r
  pure (a :: l)
def paramsP (f:Int × Int):List Bs->List Wd->PE (List Bs)
 | had,[]=>pure had
 | had,w :: r=>do
  needM (decide (had.length<32)) (wpos w) 5
  let (s,_) <- freshP f had [w]
  paramsP f (had++[s]) r
def siteP (f:Int × Int) (sites:List Bs) (ws:List Wd):PE (Bs × List Bs × List Wd):=do
 let (w,r) <- nextP f ws
 needM (sites.contains w.1 || decide (sites.length<32)) (wpos w) 5
 needM (namedB w.1) (wpos w) 4
 pure (w.1,(if sites.contains w.1 then sites else sites++[w.1]),r)
structure PS where
 p:Pg
 labels:List Bs
 sites:List Bs
 inn:Nat
 step:Nat
def anamesP (p:Pg):List Bs:=p.arrays.map Ar.nm
def kLoad:Bs:=[108,111,97,100]
def kStore:Bs:=[115,116,111,114,101]
def kCall:Bs:=[99,97,108,108]
def wkIn:Bs:=[105,110]
def kOut:Bs:=[111,117,116]
def kRelease:Bs:=[114,101,108,101,97,115,101]
def kJump:Bs:=[106,117,109,112]
def kIf:Bs:=[105,102]
def kHalt:Bs:=[104,97,108,116]
def kRet:Bs:=[114,101,116]
def kEnd:Bs:=[101,110,100]
def kMain:Bs:=[109,97,105,110]
def kFunc:Bs:=[102,117,110,99]
def kChan:Bs:=[99,104,97,110]
def kArray:Bs:=[97,114,114,97,121]
def kWidth:Bs:=[119,105,100,116,104]
def in0:In:=⟨0,0,[],[],[],(0,0)⟩
def assignP (st:PS) (f:Int × Int) (dst:Bs) (ws:List Wd):PE (In × List Bs × List Wd):=do
 let (w,r) <- nextP f ws
 needM (decide (w.1=[61])) (wpos w) 4
 let (v,q) <- nextP f r
 if v.1=kLoad then do
  let (s,q) <- knownP f (anamesP st.p) q
  let (l,q) <- operandsP f 1 q
  pure ({ in0 with kind:=2,dst:=dst,nm:=s,args:=l },st.sites,q)
 else if v.1=kRelease then do
  let (s,sites,q) <- siteP f st.sites q
  let (l,q) <- operandsP f 1 q
  pure ({ in0 with kind:=7,dst:=dst,nm:=s,args:=l },sites,q)
 else if v.1=kCall then do
  let (w,q) <- nameP f q
  let l <- restP f 0 q
  pure ({ in0 with kind:=4,dst:=dst,nm:=w.1,args:=l },st.sites,[])
 else if opB v.1 && decide (opL.idxOf v.1+2 ≠ 21) then do
  let (l,q) <- operandsP f (arityM (opL.idxOf v.1+2)) q
  pure ({ in0 with kind:=1,op:=opL.idxOf v.1+2,dst:=dst,args:=l },st.sites,q)
 else do
  let (l,q) <- operandsP f 1 r
  pure ({ in0 with dst:=dst,args:=l },st.sites,q)
def labelP (s:Bs):Option Bs:=if s.getLast?=some 58/\namedB s.dropLast=true then some s.dropLast else none
def instrP (st:PS) (f:Int × Int) (w:Wd) (r:List Wd):PE (In × List Bs × List Bs × List Wd) :=
 if w.1=kStore then do
  let (s,q) <- knownP f (anamesP st.p) r
  let (l,q) <- operandsP f 2 q
  pure ({ in0 with kind:=3,nm:=s,args:=l },st.labels,st.sites,q)
 else if w.1=wkIn then do
  let (d,q) <- nameP f r
  let (s,q) <- knownP f st.p.chans q
  pure ({ in0 with kind:=5,dst:=d.1,nm:=s },st.labels,st.sites,q)
 else if w.1=kOut then do
  let (s,q) <- knownP f st.p.chans r
  let (l,q) <- operandsP f 1 q
  pure ({ in0 with kind:=6,nm:=s,args:=l },st.labels,st.sites,q)
 else if w.1=kJump then do
  let (s,q) <- nameP f r
  pure ({ in0 with kind:=8,nm:=s.1 },st.labels,st.sites,q)
 else if w.1=kIf then do
  let (l,q) <- operandsP f 1 r
  let (s,q) <- nameP f q
  pure ({ in0 with kind:=9,nm:=s.1,args:=l },st.labels,st.sites,q)
 else if w.1=kHalt then pure ({ in0 with kind:=11 },st.labels,st.sites,r)
 else if w.1=kRet then do
  needM (decide (st.inn=1)) f 4
  let (l,q) <- operandsP f 1 r
  pure ({ in0 with kind:=12,args:=l },st.labels,st.sites,q)
 else match labelP w.1 with
  | some s=>do
   needM (!st.labels.contains s) (wpos w) 8
   pure ({ in0 with kind:=10,nm:=s },st.labels++[s],st.sites,r)
  | none=>do
   needM (namedB w.1) (wpos w) 4
   let (x,sites,q) <- assignP st f w.1 r
   pure (x,st.labels,sites,q)
def codeP (st:PS):List In:=if st.inn=1 then (st.p.funcs.getLast?.map Fu.code).getD [] else st.p.main
def putCode (st:PS) (c:List In):Pg :=
 if st.inn=1 then { st.p with funcs:=st.p.funcs.dropLast++(st.p.funcs.getLast?.map fun f=>{ f with code:=c }).toList } else { st.p with main:=c }
def instructP (st:PS) (w:Wd) (r:List Wd):PE PS :=
 if w.1=kEnd then do
  endP r
  pure { st with inn:=if st.inn=2 then 3 else 0 }
 else do
  needM (decide ((codeP st).length<1024)) (wpos w) 5
  let (x,labels,sites,q) <- instrP st (wpos w) w r
  endP q
  pure { st with p:=putCode st (codeP st++[{ x with pos:=wpos w }]),labels:=labels,sites:=sites }
def declareP (st:PS) (w:Wd) (r:List Wd):PE PS :=
 if w.1=kWidth/\st.step=0 then do
  let (n,q) <- numberP (wpos w) 64 r
  endP q
  pure { st with p:={ st.p with width:=(n:Int) },step:=1 }
 else if w.1=kChan/\st.step=1 then do
  needM (decide (st.p.chans.length<32)) (wpos w) 5
  let (s,q) <- freshP (wpos w) st.p.chans r
  endP q
  pure { st with p:={ st.p with chans:=st.p.chans++[s] } }
 else if w.1=kArray/\1<=st.step/\st.step<=2 then do
  needM (decide (st.p.arrays.length<32)) (wpos w) 5
  let (s,q) <- freshP (wpos w) (anamesP st.p) r
  let (n,q) <- numberP (wpos w) 64 q
  endP q
  pure { st with p:={ st.p with arrays:=st.p.arrays++[⟨s,(n:Int)⟩] },step:=2 }
 else if w.1=kFunc/\1<=st.step then do
  needM (decide (st.p.funcs.length<32)) (wpos w) 5
  let (s,q) <- freshP (wpos w) (st.p.funcs.map Fu.nm) r
  let l <- paramsP (wpos w) [] q
  pure { st with p:={ st.p with funcs:=st.p.funcs++[⟨s,l,[],wpos w⟩] },step:=3,inn:=1,labels:=[] }
 else if w.1=kMain/\1<=st.step then do
  endP r
  pure { st with inn:=2,labels:=[] }
 else .error (wpos w,4)
def lineP (st:PS):List Wd->PE PS
 | [] => .error ((0,0),4)
 | w :: r=>if st.inn=0 then declareP st w r else if st.inn=3 then .error (wpos w,4) else instructP st w r
def linesP:PS->List (List Wd)->PE PS
 | st,[]=>pure st
 | st,l :: r=>do
  let st <- lineP st l
  linesP st r
def pg0:Pg:=⟨0,[],[],[],[]⟩
def ps0P:PS:=⟨pg0,[],[],0,0⟩
def endOf (s:Bs):Int × Int:=(1+(s.count 10:Int),1+((s.reverse.takeWhile fun c=>decide (c ≠ 10)).length:Int))
def parseE (s:Bs):PE Pg :=
 if 65536<s.length then .error ((1,1),5) else
 match tok s with
 | .error (L,C) => .error (((L:Int),(C:Int)),4)
 | .ok ls=>do
  let st <- linesP ps0P ls
  needM (decide (st.inn=3)) (endOf s) 4
  needM (decide ((checkM st.p).2=0)) (checkM st.p).1 (checkM st.p).2
  pure st.p
def parseM (s:Bs):Pg × (Int × Int) × Int:=match parseE s with | .ok p=>(p,(0,0),0) | .error f=>(pg0,f.1,f.2)
def GR {α:Type} (K:EK α) (R:Nat->Prop) (B e:Nat) (w:World) (v:Value) (l:List α):Prop :=
 ∃ css,Each K R w css l/\w.ownsRow B e K.n v l.length css.flatten
theorem GR.nil {α:Type} (K:EK α) (R:Nat->Prop) (B e:Nat) (w:World):GR K R B e w (.slice none 0 0) []:=⟨[],Each.nil,World.ownsRow_nil _ _ _ _⟩
theorem GR.slc {α:Type} {K:EK α} {R:Nat->Prop} {B e:Nat} {w:World} {v:Value} {l:List α} (h:GR K R B e w v l):∃ p c,v=.slice p l.length c:=let ⟨_,_,h⟩:=h;own_sliceG h
theorem GR.lt {α:Type} {K:EK α} {R:Nat->Prop} {B e:Nat} {w:World} {v:Value} {l:List α} (h:GR K R B e w v l):∀ k,v.ownBlock=some k->B<=k/\k<w.heap.size:=let ⟨_,_,h⟩:=h;h.lt
theorem GR.keep {α:Type} {K:EK α} {R R':Nat->Prop} {B e:Nat} {w w':World} {v:Value} {l:List α} (h:GR K R B e w v l) (hf:∀ k,R k->R' k/\w'.heap[k]?=w.heap[k]?) (ho:∀ j,v.ownBlock=some j->w'.heap[j]?=w.heap[j]?):GR K R' B e w' v l :=
 let ⟨css,h1,h2⟩:=h;⟨css,h1.keep hf,owns_keepG h2 ho⟩
theorem GR.ga {α:Type} {K:EK α} {R:Nat->Prop} {B e:Nat} {w:World} {v:Value} {l:List α} (h:GR K R B e w v l) (hR:∀ k,R k->k<w.heap.size/\v.ownBlock ≠ some k):GA K B e w v l :=
 let ⟨css,h1,h2⟩:=h;⟨⟨css,h1.keep fun k hk=>⟨hR k hk,rfl⟩,h2⟩⟩
theorem GR.sl {α:Type} {K:EK α} {R:Nat->Prop} {B e:Nat} {w:World} {v:Value} {l:List α} (h:GR K R B e w v l) (hl:l.length<=140737488355328):SlG K (fun k=>R k\/v.ownBlock=some k) w v l:=by
 obtain ⟨css,h1,h2⟩:=h
 refine ⟨css,h1.keep fun k hk=>⟨.inl hk,rfl⟩,?_⟩
 obtain ⟨hlen,h3⟩:=h2
 rcases h3 with ⟨rfl,h0⟩ | ⟨g,cap,cur,rfl,hb,hg,hnc,hcm,hcs,ht⟩
 ·obtain rfl:=List.eq_nil_of_length_eq_zero h0
  have hc0:css=[]:=List.eq_nil_of_length_eq_zero (by rw [h1.1];rfl)
  subst hc0
  exact ⟨none,0,rfl,Nat.le_refl _,Nat.zero_le _,Nat.zero_le _,.inl rfl⟩
 ·refine ⟨_,cap,rfl,hnc,hcm,hl,.inr ⟨g,0,rfl,.inr rfl,fun j hj=>?_⟩⟩
  rw [Nat.zero_add,cell_of_row w g j cur e (0,0) hg]
  have e1:(cur.toList.take (l.length*K.n))[j]?=some css.flatten[j]:=by rw [ht];exact List.getElem?_eq_getElem hj
  rw [List.getElem?_take] at e1
  split at e1
  ·simpa using e1
  ·cases e1
section
variable {P:Program}
end
def upd (O:Nat->Value) (j:Nat) (v:Value):Nat->Value:=fun i=>if i=j then v else O i
theorem upd_eq (O:Nat->Value) (j:Nat) (v:Value):upd O j v j=v:=if_pos rfl
theorem upd_ne (O:Nat->Value) {i j:Nat} (v:Value) (h:i ≠ j):upd O j v i=O i:=if_neg h
def Fin' (b:Nat) (O:Nat->Value) (w:World) (k:Nat):Prop:=k<w.heap.size/\k ≠ b/\∀ i,(O i).ownBlock ≠ some k
structure Owns (b:Nat) (O:Nat->Value) (w:World):Prop where
 ne:∀ i j k,i ≠ j->(O i).ownBlock=some k->(O j).ownBlock ≠ some k
 lt:∀ i k,(O i).ownBlock=some k->b<k/\k<w.heap.size
theorem Owns.size {b:Nat} {O:Nat->Value} {w w':World} (h:Owns b O w) (hs:w.heap.size<=w'.heap.size):Owns b O w' :=
 ⟨h.ne,fun i k hk=>let ⟨a,c⟩:=h.lt i k hk;⟨a,by omega⟩⟩
theorem Owns.moved {b:Nat} {O:Nat->Value} {w w':World} {j:Nat} {v':Value} (h:Owns b O w) (hm:Moved w (O j) v') (hs:w.heap.size<=w'.heap.size) (hb:b<w.heap.size) (hv:∀ k,v'.ownBlock=some k->k<w'.heap.size):Owns b (upd O j v') w':=by
 have hn:∀ i k,i ≠ j->(O i).ownBlock=some k->v'.ownBlock ≠ some k:=fun i k hij hk e=>by
  rcases hm with e' | ⟨q,e',hq⟩
  ·exact h.ne i j k hij hk (e'.symm.trans e)
  ·rw [e'] at e;cases e;have:=(h.lt i _ hk).2;omega
 refine ⟨fun i i' k hii hk=>?_,fun i k hk=>?_⟩
 ·by_cases h1:i=j
  ·subst h1
   rw [upd_eq] at hk
   rw [upd_ne O v' (Ne.symm hii)]
   exact fun e=>hn i' k (Ne.symm hii) e hk
  ·rw [upd_ne O v' h1] at hk
   by_cases h2:i'=j
   ·subst h2;rw [upd_eq];exact hn i k h1 hk
   ·rw [upd_ne O v' h2];exact h.ne i i' k hii hk
 ·by_cases h1:i=j
  ·subst h1
   rw [upd_eq] at hk
   refine ⟨?_,hv k hk⟩
   rcases hm with e' | ⟨q,e',hq⟩
   ·exact (h.lt i k (e'.symm.trans hk)).1
   ·rw [e'] at hk;cases hk;omega
  ·rw [upd_ne O v' h1] at hk
   obtain ⟨a,c⟩:=h.lt i k hk
   exact ⟨a,by omega⟩
theorem Fin'.size {b:Nat} {O:Nat->Value} {w w':World} {k:Nat} (h:Fin' b O w k) (hs:w.heap.size<=w'.heap.size):Fin' b O w' k:=⟨by have:=h.1;omega,h.2⟩
theorem Fin'.moved {b:Nat} {O:Nat->Value} {w w':World} {j k:Nat} {v':Value} (h:Fin' b O w k) (hm:Moved w (O j) v') (hs:w.heap.size<=w'.heap.size):Fin' b (upd O j v') w' k:=by
 refine ⟨by have:=h.1;omega,h.2.1,fun i=>?_⟩
 by_cases h1:i=j
 ·subst h1;rw [upd_eq]
  rcases hm with e' | ⟨q,e',hq⟩
  ·rw [e'];exact h.2.2 i
  ·rw [e'];intro e;cases e;have:=h.1;omega
 ·rw [upd_ne O v' h1];exact h.2.2 i
structure Step (b:Nat) (O:Nat->Value) (j:Nat) (w w':World):Prop where
 os:w'.os=w.os
 tape:w'.tape=w.tape
 output:w'.output=w.output
 size:w.heap.size<=w'.heap.size
 block:∀ k,k<w.heap.size->k ≠ b->(O j).ownBlock ≠ some k->w'.heap[k]?=w.heap[k]?
theorem Step.of_but {b j:Nat} {O:Nat->Value} {w w':World} (h:But (fun k=>k=b) w w'):Step b O j w w':=⟨h.os,h.tape,h.output,h.size,fun k hk hb _=>h.block k hk hb⟩
theorem Step.of_grown {b j:Nat} {O:Nat->Value} {w w':World} {o:Obj} (hg:(w.alloc o).grownBy w' (O j).ownBlock):Step b O j w w':=by
 have hs:=hg.size
 rw [sA] at hs
 refine ⟨hg.os,hg.tape,hg.output,by omega,fun k hk _ hne=>?_⟩
 rw [hg.block k (by rw [sA];omega) (fun e=>hne e.symm),heap_al,if_neg (by omega)]
theorem Step.set {b j:Nat} {O:Nat->Value} {w w':World} (h:Step b O j w w') (i:Nat) (v:Value):Step b O j w (w'.setCell ⟨b,i,none⟩ v) :=
 ⟨h.os,h.tape,h.output,by simp only [World.size_setCell];exact h.size,fun k hk hb hne=>by rw [heap_ot hb];exact h.block k hk hb hne⟩
theorem Step.below {B b j:Nat} {O:Nat->Value} {w w':World} (h:Step b O j w w') (ho:Owns b O w) (hb:B<=b) (hB:B<=w.heap.size):Below B w w' :=
 ⟨h.os,h.tape,h.output,h.size,fun k hk=>h.block k (by omega) (by omega) fun e=>by have:=(ho.lt j k e).1;omega⟩
theorem GR.stay {α:Type} {K:EK α} {B b e i j:Nat} {O:Nat->Value} {w w':World} {v':Value} {l:List α} (h:GR K (Fin' b O w) B e w (O i) l) (ho:Owns b O w) (hs:Step b O j w w') (hm:Moved w (O j) v') (hij:i ≠ j):GR K (Fin' b (upd O j v') w') B e w' (upd O j v' i) l:=by
 rw [upd_ne O v' hij]
 exact h.keep (fun k hk=>⟨hk.moved hm hs.size,hs.block k hk.1 hk.2.1 (hk.2.2 j)⟩) fun k hk=>hs.block k (ho.lt i k hk).2 (by have:=(ho.lt i k hk).1;omega) (ho.ne i j k hij hk)
theorem GR.fin {α:Type} {K:EK α} {B b e:Nat} {O:Nat->Value} {w w':World} {v:Value} {l:List α} (h:GR K (Fin' b O w) B e w v l) (hs:But (fun k=>k=b) w w') (hv:v.ownBlock ≠ some b):GR K (Fin' b O w') B e w' v l :=
 h.keep (fun k hk=>⟨hk.size hs.size,hs.block k hk.1 hk.2.1⟩) fun k hk=>hs.block k (h.lt k hk).2 fun e=>hv (by rw [<- e];exact hk)
abbrev psL (O:Nat->Value) (wd:Int) (wv:Value) (at' inn step:Nat):List Value:=[.int .i64 wd,O 1,O 2,O 3,O 4,wv,.int .i64 (at':Int),O 7,O 8,O 9,O 10,.int .i64 (inn:Int),.int .i64 (step:Int)]
def FuR (b:Nat) (O:Nat->Value) (w:World) (inn:Nat) (fs:List Fu):Prop :=
  ∃ css,w.ownsRow b 74 5 (O 3) fs.length css.flatten /\
    ((inn=1/\∃ cs0 gs f pv,fs=gs++[f]/\css=cs0++[[.string ⟨f.nm.toArray⟩,pv,O 20,.int .i64 f.pos.1,.int .i64 f.pos.2]]/\Each kFu (Fin' b O w) w cs0 gs/\SlG kStr (Fin' b O w) w pv f.params/\GR kIn (Fin' b O w) b 41 w (O 20) f.code) \/
     (inn ≠ 1/\O 20=.slice none 0 0/\Each kFu (Fin' b O w) w css fs))
structure PsR (b:Nat) (w:World) (O:Nat->Value) (S:PS):Prop where
 ow:Owns b O w
 ch:GR kStr (Fin' b O w) b 9 w (O 1) S.p.chans
 ar:GR kAr (Fin' b O w) b 87 w (O 2) S.p.arrays
 fu:FuR b O w S.inn S.p.funcs
 mn:GR kIn (Fin' b O w) b 41 w (O 4) S.p.main
 an:GR kStr (Fin' b O w) b 9 w (O 7) (anamesP S.p)
 fn:GR kStr (Fin' b O w) b 9 w (O 8) (S.p.funcs.map Fu.nm)
 lb:GR kStr (Fin' b O w) b 9 w (O 9) S.labels
 st:GR kStr (Fin' b O w) b 9 w (O 10) S.sites
end Go.Proofs.YtoofbgoeipijcaaGreatDoor
namespace Go.Proofs.YtoofbgoeipijcaaGreatDoor
set_option maxRecDepth 100000
set_option maxHeartbeats 4000000
set_option linter.all false
open Go.RowKit Go.Shelf
attribute [local go_sem] Oper.semAt_some
def fltP (f:Flt):List PanicEntry:=[{ v := .iface 102 (.agg #[.int .i64 f.1.1,.int .i64 f.1.2,.int .i64 f.2]),recovered:=false }]
def NeedP (c:Bool) (f:Flt) (w:World) (e:Ending) (w':World):Prop:=Below w.heap.size w w'/\((c=true/\e=.returned (.tuple #[]))\/(c=false/\e=.panicked (fltP f)))
theorem pneed_any (c:Bool) (pos:Int × Int) (er:Int) (w:World):Calls Tryz.prog 68 #[.bool c,posV pos,.int .i64 er] w (NeedP c (pos,er) w):=by
 unfold posV
 cases c
 ·go_enter Tryz.func68,Tryz.ntmps68
  go_wp2
  exact ⟨rfl,bA,.inr ⟨rfl,rfl⟩⟩
 ·go_enter Tryz.func68,Tryz.ntmps68
  go_wp2
  go_end0
  exact ⟨bA,.inl ⟨rfl,rfl⟩⟩
theorem slg_lit (w:World) (l:List Bs) (te:TypeId) (hl:l.length<=1000):SlG kStr (fun k=>k=w.heap.size) (w.alloc (.cells (l.map fun s=>Value.string ⟨s.toArray⟩).toArray te)) (.slice (some ⟨w.heap.size,0,none⟩) l.length l.length) l:=by
 refine ⟨l.map fun s=>[.string ⟨s.toArray⟩],⟨by simp,fun i h h'=>?_⟩,_,_,rfl,Nat.le_refl _,by unfold maxLen;omega,by omega,?_⟩
 ·rw [List.getElem_map];rfl
 ·rw [show (l.map fun s=>[Value.string ⟨s.toArray⟩]).flatten=l.map fun s=>Value.string ⟨s.toArray⟩ from by induction l with | nil=>rfl | cons a r ih=>simp only [List.map_cons,List.flatten_cons];rw [ih (by simp at hl;omega)];rfl]
  exact RowR.lit w _ te rfl
theorem pkey_any (s:Bs) (w:World):Calls Tryz.prog 194 #[.string ⟨s.toArray⟩] w fun e w'=>e=.returned (.bool (opB s || kwB s))/\Below w.heap.size w w':=by
 obtain ⟨o,ho⟩:∃ o,ofM s=o:=⟨_,rfl⟩
 have hne:=ofM_err s
 rw [ho] at hne
 have HO:=hid ho
 obtain ⟨o1,o2⟩:=o
 simp only at hne
 obtain ⟨bo,hbo⟩:∃ b,opB s=b:=⟨_,rfl⟩
 rw [hbo] at hne ⊢
 have hq:(o2 == 0)=bo:=by rw [bne] at hne;revert hne;cases (o2 == 0) <;> cases bo <;> simp
 have hq2:decide (o2=0)=bo:=by rw [<- hq];exact Bool.eq_iff_iff.2 ⟨fun h=>by simpa using h,fun h=>by simpa using h⟩
 clear ho hbo hne
 obtain ⟨bk,hbk⟩:∃ b,kwL.contains s=b:=⟨_,rfl⟩
 have hk:=fun W=>contains_any kwL s _ _ _ (slg_lit W kwL 9 (by decide))
 simp only [hbk] at hk
 have HK:=hid hk
 rw [show kwB s=bk from hbk]
 clear hk hbk
 go_enter Tryz.func194,Tryz.ntmps194
 cases bo <;> go_wp2_with (first
  | (go_at_call 200;(with_reducible refine (of_any s _).mono ?_);rw [HO.out];rintro e w1 ⟨rfl,hb1⟩;have HB1:=hid hb1;clear hb1)
  | (go_at_call 150;(refine (HK.out _).mono ?_);rintro e w3 ⟨rfl,rfl⟩))
 all_goals go_ret
 all_goals exact ⟨rfl,by first | exact HB1.alloc HB1.size _ | exact HB1.out⟩
theorem pnamed_any (s:Bs) (w:World):Calls Tryz.prog 151 #[.string ⟨s.toArray⟩] w fun e w'=>e=.returned (.bool (namedB s))/\Below w.heap.size w w':=by
 obtain ⟨bn,hbn⟩:∃ b,nameB s=b:=⟨_,rfl⟩
 have HNB:=hid (show namedB s=(bn && !(opB s || kwB s)) from by unfold namedB;rw [hbn];cases bn <;> simp)
 have HBN:=hid hbn
 clear hbn
 obtain ⟨bk,hbk⟩:∃ b,(opB s || kwB s)=b:=⟨_,rfl⟩
 have HBK:=hid hbk
 rw [hbk] at HNB
 clear hbk
 go_enter Tryz.func151,Tryz.ntmps151
 cases bn <;> go_wp2_with (first
  | (go_at_call 193;(with_reducible refine (name_all s _).mono ?_);rw [HBN.out];rintro e w1 ⟨rfl,hb1⟩;have HB1:=hid hb1;clear hb1)
  | (go_at_call 194;(with_reducible refine (pkey_any s _).mono ?_);rw [HBK.out];rintro e w3 ⟨rfl,hb⟩;have HB3:=hid (HB1.out.trans (hb.mono HB1.out.size));clear hb))
 all_goals go_ret
 ·exact ⟨by rw [HNB.out];rfl,HB1.out⟩
 ·exact ⟨by rw [HNB.out];simp,HB3.out⟩
end Go.Proofs.YtoofbgoeipijcaaGreatDoor
