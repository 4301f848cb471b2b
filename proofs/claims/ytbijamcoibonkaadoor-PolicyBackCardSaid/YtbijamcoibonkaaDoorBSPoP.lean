/-
 Policies, plainly: lattices of levels, what is checked, what is read, what is written (no program in sight).
-/
import Derived.Test.YtbijamcoibonkaaDoorBSPaT
namespace Go.Proofs.YtbijamcoibonkaaDoor
set_option linter.unusedSimpArgs false
set_option linter.unusedVariables false
open Go.RowKit Go.Shelf
structure Po where
 lv:List Bs
 od:List (Int × Int)
 ch:List (Bs × Int)
 st:List (Bs × Int)
 sens:Bool
 steps:Int
 paths:Int
 nodes:Int
 conf:Int
deriving DecidableEq
def po0:Po:=⟨[],[],[],[],false,0,0,0,0⟩
def upsL (n:Nat):List Nat:=(List.range n).map (fun i=>2 ^ i)++List.replicate (32 - n) 0
def pairB (n:Nat) (p:Int × Int):Bool:=decide (0≤p.1) && decide (p.1<(n:Int)) && (decide (0≤p.2) && decide (p.2<(n:Int)))
def ordS (u:List Nat) (p:Int × Int):List Nat:=u.set p.1.toNat (u.getD p.1.toNat 0 ||| 2 ^ p.2.toNat)
def ordL (n:Nat):List (Int × Int)→List Nat→Option (List Nat)
 | [],u=>some u
 | p :: r,u=>if pairB n p then ordL n r (ordS u p) else none
def closeS (k:Nat) (u:List Nat) (i:Nat):List Nat:=if (u.getD i 0).testBit k then u.set i (u.getD i 0 ||| u.getD k 0) else u
def closeI (k m:Nat) (u:List Nat):List Nat:=(List.range m).foldl (closeS k) u
def closeK (n m:Nat) (u:List Nat):List Nat:=(List.range m).foldl (fun u k=>closeI k n u) u
def downS (u:List Nat) (i:Nat) (d:List Nat) (k:Nat):List Nat:=if (u.getD i 0).testBit k then d.set k (d.getD k 0 ||| 2 ^ i) else d
def downI (u:List Nat) (i m:Nat) (d:List Nat):List Nat:=(List.range m).foldl (downS u i) d
def downK (u:List Nat) (n m:Nat) (d:List Nat):List Nat:=(List.range m).foldl (fun d i=>downI u i n d) d
def loopyB (u d:List Nat) (n:Nat):Bool:=(List.range n).any fun i=>decide (u.getD i 0 &&& d.getD i 0 ≠ 2 ^ i)
def boundB (s:List Nat) (set:Nat):Bool:=(List.range 32).any fun i=>set.testBit i && decide (set &&& s.getD i 0=set)
def wholeB (s:List Nat) (n:Nat):Bool:=(List.range n).all fun i=>(List.range n).all fun k=>boundB s (s.getD i 0 &&& s.getD k 0)
def latT (n:Nat) (u:List Nat):Int :=
 if loopyB u (downK u n n (List.replicate 32 0)) n then 9
 else if wholeB u n && wholeB (downK u n n (List.replicate 32 0)) n then 0 else 4
def latE (n:Nat) (od:List (Int × Int)):Int :=
 if n<1∨32<n then 3 else if 1024<od.length then 5 else
 match ordL n od (upsL n) with
 | none=>3
 | some u=>latT n (closeK n n u)
def bindsE (levels:Nat):List Bs→List (Bs × Int)→Int
 | _,[]=>0
 | had,b :: r=>if nameB b.1=false then 4 else if had.contains b.1 then 8 else if b.2<0∨(levels:Int)≤b.2 then 3 else bindsE levels (had++[b.1]) r
def listE (levels:Nat) (l:List (Bs × Int)):Int:=if 32<l.length then 5 else bindsE levels [] l
def levelsE:List Bs→List Bs→Int
 | _,[]=>0
 | had,s :: r=>if nameB s=false then 4 else if had.contains s then 8 else levelsE (had++[s]) r
def rangeB (p:Po):Bool:=decide (1≤p.steps) && decide (p.steps≤65536) && (decide (1≤p.paths) && decide (p.paths≤4096)) && (decide (0≤p.nodes) && decide (p.nodes≤1048576)) && (decide (0≤p.conf) && decide (p.conf≤1099511627776))
def orE (a b:Int):Int:=if a=0 then b else a
def checkP (p:Po):Int :=
 if p.lv=[] then 4 else if 32<p.lv.length then 5 else
 orE (levelsE [] p.lv) (orE (latE p.lv.length p.od) (orE (listE p.lv.length p.ch) (orE (listE p.lv.length p.st) (if rangeB p then 0 else 3))))
structure RS where
 p:Po
 ix:Nat
 pos:Int × Int
 e:Int
def wd0:Wd:=([],0,0)
def failR (r:RS) (pos:Int × Int) (e:Int):RS:=if r.e=0 then { r with pos:=pos,e:=e } else r
def nextR (ws:List Wd) (r:RS):Wd × RS:=if r.ix<ws.length then (ws.getD r.ix wd0,{ r with ix:=r.ix+1 }) else (wd0,failR r (wpos (ws.headD wd0)) 4)
def endR (ws:List Wd) (r:RS):RS:=if r.ix<ws.length then failR r (wpos (ws.getD r.ix wd0)) 4 else r
def nameQ (x:Wd × RS):Wd × RS:=(x.1,if nameB x.1.1 then x.2 else failR x.2 (wpos x.1) 4)
def nameR (ws:List Wd) (r:RS):Wd × RS:=nameQ (nextR ws r)
def lvl (l:List Bs) (s:Bs):Int:=if l.contains s then (l.idxOf s:Int) else -1
def levelQ (x:Wd × RS):Int × RS:=(lvl x.2.p.lv x.1.1,if x.2.p.lv.contains x.1.1 then x.2 else failR x.2 (wpos x.1) 6)
def levelR (ws:List Wd) (r:RS):Int × RS:=levelQ (nameR ws r)
def numberQ (lo hi:Nat) (x:Wd × RS):Int × RS :=
 (IntKind.i64.wrap ((numR x.1.1).1:Int),
  if (numR x.1.1).2 ≠ 0 then failR x.2 (wpos x.1) (numR x.1.1).2 else if (numR x.1.1).1<lo∨hi<(numR x.1.1).1 then failR x.2 (wpos x.1) 3 else x.2)
def numberR (lo hi:Nat) (ws:List Wd) (r:RS):Int × RS:=numberQ lo hi (nextR ws r)
def manyR (n most:Nat) (ws:List Wd) (r:RS):RS:=if most≤n then failR r (wpos (ws.headD wd0)) 5 else r
def newQ (had:List Bs) (x:Wd × RS):Wd × RS:=(x.1,if had.contains x.1.1 then failR x.2 (wpos x.1) 8 else x.2)
def newR (had:List Bs) (ws:List Wd) (r:RS):Wd × RS:=newQ had (nameR ws r)
def bindR (l:List (Bs × Int)) (ws:List Wd) (r:RS):List (Bs × Int) × RS :=
 let x:=newR (l.map (·.1)) ws (manyR l.length 32 ws r)
 let y:=levelR ws x.2
 (l++[(x.1.1,y.1)],y.2)
def setP (r:RS) (f:Po→Po):RS:={ r with p:=f r.p }
def kLevel:Bs:=[108,101,118,101,108]
def kOrder:Bs:=[111,114,100,101,114]
def kSite:Bs:=[115,105,116,101]
def kMode:Bs:=[109,111,100,101]
def kSteps:Bs:=[115,116,101,112,115]
def kPaths:Bs:=[112,97,116,104,115]
def kNodes:Bs:=[110,111,100,101,115]
def kConf:Bs:=[99,111,110,102,108,105,99,116,115]
def kSens:Bs:=[115,101,110,115,105,116,105,118,101]
def kInsens:Bs:=[105,110,115,101,110,115,105,116,105,118,101]
def levelK (ws:List Wd) (r:RS):RS :=
 let x:=newR r.p.lv ws (manyR r.p.lv.length 32 ws r)
 setP x.2 fun p=>{ p with lv:=p.lv++[x.1.1] }
def orderK (ws:List Wd) (r:RS):RS :=
 let x:=levelR ws (manyR r.p.od.length 1024 ws r)
 let y:=levelR ws x.2
 setP y.2 fun p=>{ p with od:=p.od++[(x.1,y.1)] }
def chanK (ws:List Wd) (r:RS):RS:=setP (bindR r.p.ch ws r).2 fun p=>{ p with ch:=(bindR r.p.ch ws r).1 }
def siteK (ws:List Wd) (r:RS):RS:=setP (bindR r.p.st ws r).2 fun p=>{ p with st:=(bindR r.p.st ws r).1 }
def modeK (ws:List Wd) (r:RS):RS :=
 let x:=nextR ws r
 let y:=setP x.2 fun p=>{ p with sens:=decide (x.1.1=kSens) }
 if x.1.1 ≠ kSens∧x.1.1 ≠ kInsens then failR y (wpos x.1) 4 else y
def stepsK (ws:List Wd) (r:RS):RS:=setP (numberR 1 65536 ws r).2 fun p=>{ p with steps:=(numberR 1 65536 ws r).1 }
def pathsK (ws:List Wd) (r:RS):RS:=setP (numberR 1 4096 ws r).2 fun p=>{ p with paths:=(numberR 1 4096 ws r).1 }
def nodesK (ws:List Wd) (r:RS):RS:=setP (numberR 0 1048576 ws r).2 fun p=>{ p with nodes:=(numberR 0 1048576 ws r).1 }
def confK (ws:List Wd) (r:RS):RS:=setP (numberR 0 1099511627776 ws r).2 fun p=>{ p with conf:=(numberR 0 1099511627776 ws r).1 }
def readR (k:Nat) (ws:List Wd) (r:RS):RS :=
 match k with
 | 0=>levelK ws r
 | 1=>orderK ws r
 | 2=>chanK ws r
 | 3=>siteK ws r
 | 4=>modeK ws r
 | 5=>stepsK ws r
 | 6=>pathsK ws r
 | 7=>nodesK ws r
 | _=>confK ws r
def kindL:List (Bs × Bool):=[(kLevel,true),(kOrder,true),(kChan,true),(kSite,true),(kMode,false),(kSteps,false),(kPaths,false),(kNodes,false),(kConf,false)]
def stepG (word:Bs) (a:Nat):Nat→Nat→Option Nat
 | _,0=>none
 | k,m+1 =>
  if (kindL.getD k ([],false)).1=word∧((kindL.getD k ([],false)).2=true∨a<k) then some k
  else if (kindL.getD k ([],false)).2=false∧a<k then none
  else stepG word a (k+1) m
def stepP (word:Bs) (a:Nat):Option Nat:=stepG word a a (9 - a)
structure LS where
 p:Po
 k:Nat
 last:Int × Int
 ord:Bool
def ls0:LS:=⟨po0,0,(0,0),false⟩
def orderQ (st:LS):PE LS :=
 if st.ord || st.p.lv.isEmpty then .ok st
 else if latE st.p.lv.length st.p.od ≠ 0 then .error (st.last,latE st.p.lv.length st.p.od)
 else .ok { st with ord:=true }
def kindQ (st:LS) (w:Wd):Option Nat:=if st.p.lv.isEmpty && decide (stepP w.1 st.k ≠ some 0) then none else stepP w.1 st.k
def highB:Option Nat→Bool
 | none=>true
 | some k=>decide (1<k)
def bodyQ (st:LS) (ws:List Wd) (k:Nat):PE LS :=
 let r:=endR ws (readR k ws ⟨st.p,1,(0,0),0⟩)
 if r.e ≠ 0 then .error (r.pos,r.e) else .ok { st with p:=r.p,k:=k,last:=if k≤1 then wpos (ws.headD wd0) else st.last }
def lineQ (st:LS) (ws:List Wd):PE LS:=do
 let kq:=kindQ st (ws.headD wd0)
 let st ← if highB kq && decide (st.k≤1) then orderQ st else .ok st
 match kq with
 | none => .error (wpos (ws.headD wd0),4)
 | some k=>bodyQ st ws k
def linesQ:LS→List (List Wd)→PE LS
 | st,[]=>pure st
 | st,l :: r=>do
  let st ← lineQ st l
  linesQ st r
def endQ (e:Int × Int) (st:LS):PE Po:=do
 let st ← if decide (st.k≤1) then orderQ st else .ok st
 if st.k<8 then .error (e,4) else .ok st.p
def parseQ (s:Bs):PE Po :=
 if 65536<s.length then .error ((1,1),5) else
 match tok s with
 | .error (L,C) => .error (((L:Int),(C:Int)),4)
 | .ok ls=>do
  let st ← linesQ ls0 ls
  endQ (endOf s) st
def parseP (s:Bs):Po × (Int × Int) × Int:=match parseQ s with | .ok p=>(p,(0,0),0) | .error f=>(po0,f.1,f.2)
def lineL (l:List Bs) (w:Bs) (b:Bs × Int):List Bs:=[w,b.1,l.getD b.2.toNat []]
def lineW (p:Po):Bs→Bs × Int→List Bs:=lineL p.lv
def linesPW (p:Po):List (List Bs) :=
 p.lv.map (fun s=>[kLevel,s])++p.od.map (fun o=>[kOrder,p.lv.getD o.1.toNat [],p.lv.getD o.2.toNat []])++p.ch.map (lineW p kChan)++p.st.map (lineW p kSite) ++
  [[kMode,if p.sens then kSens else kInsens],[kSteps,Lib.itoa p.steps],[kPaths,Lib.itoa p.paths],[kNodes,Lib.itoa p.nodes],[kConf,Lib.itoa p.conf]]
def textP (p:Po):Bs:=textT ((linesPW p).map jn)
def printP (p:Po):Bs × Int:=if checkP p ≠ 0 then ([],checkP p) else if 65536<(textP p).length then ([],5) else (textP p,0)
def p1P:Po:=⟨[[108,111,119],[104,105,103,104]],[(0,1)],[([112,117,98],0),([115,101,99],1)],[],true,20,16,0,0⟩
end Go.Proofs.YtbijamcoibonkaaDoor
