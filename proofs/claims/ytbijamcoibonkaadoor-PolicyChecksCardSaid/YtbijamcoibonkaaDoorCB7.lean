/-
 Programs: the plain model of what package prog checks (no program in sight).
-/
import Derived.Test.YtbijamcoibonkaaDoorCSTkN
namespace Go.Proofs.YtbijamcoibonkaaDoor
set_option linter.unusedSimpArgs false
set_option linter.unusedVariables false
open Go.RowKit Go.Shelf
structure Ag where
 nm:Bs
 num:Nat
deriving DecidableEq
structure In where
 kind:Nat
 op:Nat
 dst:Bs
 nm:Bs
 args:List Ag
 pos:Int × Int
deriving DecidableEq
structure Ar where
 nm:Bs
 size:Int
deriving DecidableEq
structure Fu where
 nm:Bs
 params:List Bs
 code:List In
 pos:Int × Int
deriving DecidableEq
structure Pg where
 width:Int
 chans:List Bs
 arrays:List Ar
 funcs:List Fu
 main:List In
deriving DecidableEq
instance:Inhabited In:=⟨⟨0,0,[],[],[],(0,0)⟩⟩
instance:Inhabited Fu:=⟨⟨[],[],[],(0,0)⟩⟩
def opL:List Bs:=[[110,111,116],[110,101,103],[97,100,100],[115,117,98],[109,117,108],[100,105,118],[114,101,109],[97,110,100],[111,114],[120,111,114],
 [115,104,108],[115,104,114],[115,97,114],[101,113],[110,101],[108,116],[108,101],[115,108,116],[115,108,101],[105,116,101]]
def kwL:List Bs:=[[119,105,100,116,104],[99,104,97,110],[97,114,114,97,121],[102,117,110,99],[109,97,105,110],[101,110,100],[108,111,97,100],[115,116,111,114,101],
 [99,97,108,108],[105,110],[111,117,116],[114,101,108,101,97,115,101],[106,117,109,112],[105,102],[104,97,108,116],[114,101,116]]
def opB (s:Bs):Bool:=opL.contains s
def kwB (s:Bs):Bool:=kwL.contains s
def namedB (s:Bs):Bool:=nameB s && !opB s && !kwB s
def arityM (o:Nat):Nat:=if o≤1 then 0 else if o≤3 then 1 else if o=21 then 3 else 2
def fieldsL:List (Bool × Bool × Int):=[(true,false,1),(true,false,0),(true,true,1),(false,true,2),(true,true,-1),(true,true,0),(false,true,1),(true,true,1),(false,true,0),
 (false,true,1),(false,true,0),(false,false,0),(false,false,1)]
def argB (a:Ag):Bool:=decide (a.nm=[]) || (namedB a.nm && decide (a.num=0))
def wantM (x:In):Int:=if x.kind=1 then (arityM x.op:Int) else (fieldsL.getD x.kind (false,false,0)).2.2
def fieldB (f:Bool) (s:Bs):Bool:=if f then namedB s else decide (s=[])
def opOkB (x:In):Bool:=if x.kind=1 then decide (2≤x.op) && decide (x.op≤20) else decide (x.op=0)
def formB (x:In):Bool:=decide (x.kind<13) && opOkB x && fieldB (fieldsL.getD x.kind (false,false,0)).1 x.dst && fieldB (fieldsL.getD x.kind (false,false,0)).2.1 x.nm
 && (decide (wantM x<0) || decide ((x.args.length:Int)=wantM x)) && decide (x.args.length≤32) && x.args.all argB
abbrev Flt:=(Int × Int) × Int
def declM (pos:Int × Int):List Bs→List Bs→Option Flt
 | _,[]=>none
 | seen,s :: r=>if namedB s=false then some (pos,4) else if seen.contains s then some (pos,8) else declM pos (seen++[s]) r
def arrsM:List Bs→List Ar→Option Flt
 | _,[]=>none
 | seen,a :: r=>if namedB a.nm=false then some ((0,0),4) else if seen.contains a.nm then some ((0,0),8) else if a.size<1∨64<a.size then some ((0,0),3) else arrsM (seen++[a.nm]) r
def stepM (chans arrays:List Bs) (main:Bool) (labels sites:List Bs) (x:In):Except Flt (List Bs × List Bs) :=
 if (formB x && !(main && decide (x.kind=12)))=false then .error (x.pos,4)
 else if x.kind=5∨x.kind=6 then (if chans.contains x.nm then .ok (labels,sites) else .error (x.pos,6))
 else if x.kind=2∨x.kind=3 then (if arrays.contains x.nm then .ok (labels,sites) else .error (x.pos,6))
 else if x.kind=10 then (if labels.contains x.nm then .error (x.pos,8) else .ok (labels++[x.nm],sites))
 else if x.kind=7 then (if sites.contains x.nm then .ok (labels,sites) else if sites.length<32 then .ok (labels,sites++[x.nm]) else .error (x.pos,5))
 else .ok (labels,sites)
def bodyM (chans arrays:List Bs) (main:Bool):List In→List Bs→List Bs→Except Flt (List Bs × List Bs)
 | [],labels,sites => .ok (labels,sites)
 | x :: r,labels,sites=>match stepM chans arrays main labels sites x with
  | .error f => .error f
  | .ok (l,s)=>bodyM chans arrays main r l s
def instrsM (chans arrays:List Bs) (main:Bool) (pos:Int × Int) (code:List In) (sites:List Bs):Except Flt (List Bs × List Bs) :=
 if 1024<code.length then .error (pos,5) else bodyM chans arrays main code [] sites
def funcsM (chans arrays:List Bs):List Bs→List (List Bs)→List Bs→List Fu→Except Flt (List (List Bs) × List Bs)
 | _,labels,sites,[] => .ok (labels,sites)
 | seen,labels,sites,f :: r =>
  if namedB f.nm=false then .error (f.pos,4) else if seen.contains f.nm then .error (f.pos,8) else
  if 32<f.params.length then .error (f.pos,5) else
  match declM f.pos [] f.params with
  | some x => .error x
  | none=>match instrsM chans arrays false f.pos f.code sites with
   | .error x => .error x
   | .ok (l,s)=>funcsM chans arrays (seen++[f.nm]) (labels++[l]) s r
def paramsOf (p:Pg) (s:Bs):Option Nat:=(p.funcs.find? fun f=>decide (f.nm=s)).map fun f=>f.params.length
def targetM (p:Pg) (labels:List Bs) (x:In):Option Flt :=
 if x.kind=8∨x.kind=9 then (if labels.contains x.nm then none else some (x.pos,6))
 else if x.kind=4 then (match paramsOf p x.nm with
  | none=>some (x.pos,6)
  | some n=>if n=x.args.length then none else some (x.pos,4))
 else none
def targetsM (p:Pg) (labels:List Bs):List In→Option Flt
 | []=>none
 | x :: r=>match targetM p labels x with
  | some f=>some f
  | none=>targetsM p labels r
def callsM (code:List In):List Bs:=(code.filter fun x=>decide (x.kind=4)).map In.nm
def codeOf (p:Pg) (s:Bs):List In:=((p.funcs.find? fun f=>decide (f.nm=s)).map Fu.code).getD []
def pushM (name:Bs):List Bs→List Bs→List Bs→Bool × List Bs × List Bs
 | [],seen,todo=>(false,seen,todo)
 | g :: r,seen,todo=>if g=name then (true,seen,todo) else if seen.contains g then pushM name r seen todo else pushM name r (seen++[g]) (todo++[g])
def loopsM (p:Pg) (name:Bs):Nat→List Bs→List Bs→Bool
 | 0,_,_=>false
 | k+1,seen,todo=>if todo=[] then false else
  let r:=pushM name (callsM (codeOf p (todo.getLastD []))) seen todo.dropLast
  if r.1 then true else loopsM p name k r.2.1 r.2.2
def loopB (p:Pg) (name:Bs):Bool:=loopsM p name (2*p.funcs.length+3) [] [name]
def loopsAllM (p:Pg):List Fu→Option Flt
 | []=>none
 | f :: r=>if loopB p f.nm then some (f.pos,9) else loopsAllM p r
def laterM (p:Pg):List (List Bs)→List Fu→Option Flt
 | _,[]=>none
 | ls,f :: r=>match targetsM p (ls.headD []) f.code with
  | some x=>some x
  | none=>laterM p ls.tail r
def checkM (p:Pg):Flt :=
 if p.width<1∨64<p.width then ((0,0),3) else
 if 32<p.chans.length then ((0,0),5) else
 match declM (0,0) [] p.chans with
 | some f=>f
 | none =>
 if 32<p.arrays.length then ((0,0),5) else
 match arrsM [] p.arrays with
 | some f=>f
 | none =>
 if 32<p.funcs.length then ((0,0),5) else
 match funcsM p.chans (p.arrays.map Ar.nm) [] [] [] p.funcs with
 | .error f=>f
 | .ok (labels,sites) =>
 match instrsM p.chans (p.arrays.map Ar.nm) true (0,0) p.main sites with
 | .error f=>f
 | .ok (ml,_) =>
 match laterM p labels p.funcs with
 | some f=>f
 | none =>
 match targetsM p ml p.main with
 | some f=>f
 | none =>
 match loopsAllM p p.funcs with
 | some f=>f
 | none=>((0,0),0)
abbrev PE (α:Type):=Except Flt α
def wpos (w:Wd):Int × Int:=((w.2.1:Int),(w.2.2:Int))
def needM (b:Bool) (pos:Int × Int) (e:Int):PE Unit:=if b then .ok () else .error (pos,e)
def nextP (f:Int × Int):List Wd→PE (Wd × List Wd)
 | [] => .error (f,4)
 | w :: r => .ok (w,r)
def endP:List Wd→PE Unit
 | [] => .ok ()
 | w :: _ => .error (wpos w,4)
def nameP (f:Int × Int) (ws:List Wd):PE (Wd × List Wd):=do
 let (w,r) ← nextP f ws
 needM (namedB w.1) (wpos w) 4
 pure (w,r)
def freshP (f:Int × Int) (had:List Bs) (ws:List Wd):PE (Bs × List Wd):=do
 let (w,r) ← nameP f ws
 needM (!had.contains w.1) (wpos w) 8
 pure (w.1,r)
def knownP (f:Int × Int) (had:List Bs) (ws:List Wd):PE (Bs × List Wd):=do
 let (w,r) ← nameP f ws
 needM (had.contains w.1) (wpos w) 6
 pure (w.1,r)
def numberP (f:Int × Int) (most:Nat) (ws:List Wd):PE (Nat × List Wd):=do
 let (w,r) ← nextP f ws
 needM (decide ((numR w.1).2=0)) (wpos w) (numR w.1).2
 needM (decide (1≤(numR w.1).1) && decide ((numR w.1).1≤most)) (wpos w) 3
 pure ((numR w.1).1,r)
def operandP (f:Int × Int) (ws:List Wd):PE (Ag × List Wd):=do
 let (w,r) ← nextP f ws
 if digB (w.1.headD 0) then
  needM (decide ((numR w.1).2=0)) (wpos w) (numR w.1).2
  pure (⟨[],(numR w.1).1⟩,r)
 else
  needM (namedB w.1) (wpos w) 4
  pure (⟨w.1,0⟩,r)
def operandsP (f:Int × Int):Nat→List Wd→PE (List Ag × List Wd)
 | 0,ws=>pure ([],ws)
 | n+1,ws=>do
  let (a,r) ← operandP f ws
  let (l,q) ← operandsP f n r
  pure (a :: l,q)
def restP (f:Int × Int):Nat→List Wd→PE (List Ag)
 | _,[]=>pure []
 | k,w :: r=>do
  needM (decide (k<32)) (wpos w) 5
  let (a,_) ← operandP f [w]
  let l ← restP f (k+1) r
  pure (a :: l)
def paramsP (f:Int × Int):List Bs→List Wd→PE (List Bs)
 | had,[]=>pure had
 | had,w :: r=>do
  needM (decide (had.length<32)) (wpos w) 5
  let (s,_) ← freshP f had [w]
  paramsP f (had++[s]) r
def siteP (f:Int × Int) (sites:List Bs) (ws:List Wd):PE (Bs × List Bs × List Wd):=do
 let (w,r) ← nextP f ws
 needM (sites.contains w.1 || decide (sites.length<32)) (wpos w) 5
 needM (namedB w.1) (wpos w) 4
 pure (w.1,(if sites.contains w.1 then sites else sites++[w.1]),r)
structure PS where
 p:Pg
 labels:List Bs
 sites:List Bs
 inn:Nat
 step:Nat
def anamesP (p:Pg):List Bs:=p.arrays.map Ar.nm
def kLoad:Bs:=[108,111,97,100]
def kStore:Bs:=[115,116,111,114,101]
def kCall:Bs:=[99,97,108,108]
def wkIn:Bs:=[105,110]
def kOut:Bs:=[111,117,116]
def kRelease:Bs:=[114,101,108,101,97,115,101]
def kJump:Bs:=[106,117,109,112]
def kIf:Bs:=[105,102]
def kHalt:Bs:=[104,97,108,116]
def kRet:Bs:=[114,101,116]
def kEnd:Bs:=[101,110,100]
def kMain:Bs:=[109,97,105,110]
def kFunc:Bs:=[102,117,110,99]
def kChan:Bs:=[99,104,97,110]
def kArray:Bs:=[97,114,114,97,121]
def kWidth:Bs:=[119,105,100,116,104]
def in0:In:=⟨0,0,[],[],[],(0,0)⟩
def assignP (st:PS) (f:Int × Int) (dst:Bs) (ws:List Wd):PE (In × List Bs × List Wd):=do
 let (w,r) ← nextP f ws
 needM (decide (w.1=[61])) (wpos w) 4
 let (v,q) ← nextP f r
 if v.1=kLoad then do
  let (s,q) ← knownP f (anamesP st.p) q
  let (l,q) ← operandsP f 1 q
  pure ({ in0 with kind:=2,dst:=dst,nm:=s,args:=l },st.sites,q)
 else if v.1=kRelease then do
  let (s,sites,q) ← siteP f st.sites q
  let (l,q) ← operandsP f 1 q
  pure ({ in0 with kind:=7,dst:=dst,nm:=s,args:=l },sites,q)
 else if v.1=kCall then do
  let (w,q) ← nameP f q
  let l ← restP f 0 q
  pure ({ in0 with kind:=4,dst:=dst,nm:=w.1,args:=l },st.sites,[])
 else if opB v.1 && decide (opL.idxOf v.1+2 ≠ 21) then do
  let (l,q) ← operandsP f (arityM (opL.idxOf v.1+2)) q
  pure ({ in0 with kind:=1,op:=opL.idxOf v.1+2,dst:=dst,args:=l },st.sites,q)
 else do
  let (l,q) ← operandsP f 1 r
  pure ({ in0 with dst:=dst,args:=l },st.sites,q)
def labelP (s:Bs):Option Bs:=if s.getLast?=some 58∧namedB s.dropLast=true then some s.dropLast else none
def instrP (st:PS) (f:Int × Int) (w:Wd) (r:List Wd):PE (In × List Bs × List Bs × List Wd) :=
 if w.1=kStore then do
  let (s,q) ← knownP f (anamesP st.p) r
  let (l,q) ← operandsP f 2 q
  pure ({ in0 with kind:=3,nm:=s,args:=l },st.labels,st.sites,q)
 else if w.1=wkIn then do
  let (d,q) ← nameP f r
  let (s,q) ← knownP f st.p.chans q
  pure ({ in0 with kind:=5,dst:=d.1,nm:=s },st.labels,st.sites,q)
 else if w.1=kOut then do
  let (s,q) ← knownP f st.p.chans r
  let (l,q) ← operandsP f 1 q
  pure ({ in0 with kind:=6,nm:=s,args:=l },st.labels,st.sites,q)
 else if w.1=kJump then do
  let (s,q) ← nameP f r
  pure ({ in0 with kind:=8,nm:=s.1 },st.labels,st.sites,q)
 else if w.1=kIf then do
  let (l,q) ← operandsP f 1 r
  let (s,q) ← nameP f q
  pure ({ in0 with kind:=9,nm:=s.1,args:=l },st.labels,st.sites,q)
 else if w.1=kHalt then pure ({ in0 with kind:=11 },st.labels,st.sites,r)
 else if w.1=kRet then do
  needM (decide (st.inn=1)) f 4
  let (l,q) ← operandsP f 1 r
  pure ({ in0 with kind:=12,args:=l },st.labels,st.sites,q)
 else match labelP w.1 with
  | some s=>do
   needM (!st.labels.contains s) (wpos w) 8
   pure ({ in0 with kind:=10,nm:=s },st.labels++[s],st.sites,r)
  | none=>do
   needM (namedB w.1) (wpos w) 4
   let (x,sites,q) ← assignP st f w.1 r
   pure (x,st.labels,sites,q)
def codeP (st:PS):List In:=if st.inn=1 then (st.p.funcs.getLast?.map Fu.code).getD [] else st.p.main
def putCode (st:PS) (c:List In):Pg :=
 if st.inn=1 then { st.p with funcs:=st.p.funcs.dropLast++(st.p.funcs.getLast?.map fun f=>{ f with code:=c }).toList } else { st.p with main:=c }
def instructP (st:PS) (w:Wd) (r:List Wd):PE PS :=
 if w.1=kEnd then do
  endP r
  pure { st with inn:=if st.inn=2 then 3 else 0 }
 else do
  needM (decide ((codeP st).length<1024)) (wpos w) 5
  let (x,labels,sites,q) ← instrP st (wpos w) w r
  endP q
  pure { st with p:=putCode st (codeP st++[{ x with pos:=wpos w }]),labels:=labels,sites:=sites }
def declareP (st:PS) (w:Wd) (r:List Wd):PE PS :=
 if w.1=kWidth∧st.step=0 then do
  let (n,q) ← numberP (wpos w) 64 r
  endP q
  pure { st with p:={ st.p with width:=(n:Int) },step:=1 }
 else if w.1=kChan∧st.step=1 then do
  needM (decide (st.p.chans.length<32)) (wpos w) 5
  let (s,q) ← freshP (wpos w) st.p.chans r
  endP q
  pure { st with p:={ st.p with chans:=st.p.chans++[s] } }
 else if w.1=kArray∧1≤st.step∧st.step≤2 then do
  needM (decide (st.p.arrays.length<32)) (wpos w) 5
  let (s,q) ← freshP (wpos w) (anamesP st.p) r
  let (n,q) ← numberP (wpos w) 64 q
  endP q
  pure { st with p:={ st.p with arrays:=st.p.arrays++[⟨s,(n:Int)⟩] },step:=2 }
 else if w.1=kFunc∧1≤st.step then do
  needM (decide (st.p.funcs.length<32)) (wpos w) 5
  let (s,q) ← freshP (wpos w) (st.p.funcs.map Fu.nm) r
  let l ← paramsP (wpos w) [] q
  pure { st with p:={ st.p with funcs:=st.p.funcs++[⟨s,l,[],wpos w⟩] },step:=3,inn:=1,labels:=[] }
 else if w.1=kMain∧1≤st.step then do
  endP r
  pure { st with inn:=2,labels:=[] }
 else .error (wpos w,4)
def lineP (st:PS):List Wd→PE PS
 | [] => .error ((0,0),4)
 | w :: r=>if st.inn=0 then declareP st w r else if st.inn=3 then .error (wpos w,4) else instructP st w r
def linesP:PS→List (List Wd)→PE PS
 | st,[]=>pure st
 | st,l :: r=>do
  let st ← lineP st l
  linesP st r
def pg0:Pg:=⟨0,[],[],[],[]⟩
def ps0P:PS:=⟨pg0,[],[],0,0⟩
def endOf (s:Bs):Int × Int:=(1+(s.count 10:Int),1+((s.reverse.takeWhile fun c=>decide (c ≠ 10)).length:Int))
def parseE (s:Bs):PE Pg :=
 if 65536<s.length then .error ((1,1),5) else
 match tok s with
 | .error (L,C) => .error (((L:Int),(C:Int)),4)
 | .ok ls=>do
  let st ← linesP ps0P ls
  needM (decide (st.inn=3)) (endOf s) 4
  needM (decide ((checkM st.p).2=0)) (checkM st.p).1 (checkM st.p).2
  pure st.p
end Go.Proofs.YtbijamcoibonkaaDoor
