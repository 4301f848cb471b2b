/-
 Policies, plainly: lattices of levels, what is checked, what is read, what is written (no program in sight).
-/
import Derived.Test.YtbijamcoibonkaaDoorCSPaT
import Derived.Test.YtbijamcoibonkaaDoorCSTkN
import Derived.Test.YtbijamcoibonkaaDoorCB7
import Derived.MapKept
import Derived.IntWalk
import Derived.Laws.RangeString
import Derived.Test.YtbijamcoibonkaaDoorCB1
import Derived.Test.YtbijamcoibonkaaDoorProg
import Derived.Laws.StructEq
import Derived.Deep.QuietTactic
import Derived.BigQuiet
namespace Go.Proofs.YtbijamcoibonkaaDoor
set_option linter.unusedSimpArgs false
set_option linter.unusedVariables false
open Go.RowKit Go.Shelf
structure Po where
 lv:List Bs
 od:List (Int × Int)
 ch:List (Bs × Int)
 st:List (Bs × Int)
 sens:Bool
 steps:Int
 paths:Int
 nodes:Int
 conf:Int
deriving DecidableEq
def po0:Po:=⟨[],[],[],[],false,0,0,0,0⟩
def upsL (n:Nat):List Nat:=(List.range n).map (fun i=>2 ^ i)++List.replicate (32 - n) 0
def pairB (n:Nat) (p:Int × Int):Bool:=decide (0≤p.1) && decide (p.1<(n:Int)) && (decide (0≤p.2) && decide (p.2<(n:Int)))
def ordS (u:List Nat) (p:Int × Int):List Nat:=u.set p.1.toNat (u.getD p.1.toNat 0 ||| 2 ^ p.2.toNat)
def ordL (n:Nat):List (Int × Int)→List Nat→Option (List Nat)
 | [],u=>some u
 | p :: r,u=>if pairB n p then ordL n r (ordS u p) else none
def closeS (k:Nat) (u:List Nat) (i:Nat):List Nat:=if (u.getD i 0).testBit k then u.set i (u.getD i 0 ||| u.getD k 0) else u
def closeI (k m:Nat) (u:List Nat):List Nat:=(List.range m).foldl (closeS k) u
def closeK (n m:Nat) (u:List Nat):List Nat:=(List.range m).foldl (fun u k=>closeI k n u) u
def downS (u:List Nat) (i:Nat) (d:List Nat) (k:Nat):List Nat:=if (u.getD i 0).testBit k then d.set k (d.getD k 0 ||| 2 ^ i) else d
def downI (u:List Nat) (i m:Nat) (d:List Nat):List Nat:=(List.range m).foldl (downS u i) d
def downK (u:List Nat) (n m:Nat) (d:List Nat):List Nat:=(List.range m).foldl (fun d i=>downI u i n d) d
def loopyB (u d:List Nat) (n:Nat):Bool:=(List.range n).any fun i=>decide (u.getD i 0 &&& d.getD i 0 ≠ 2 ^ i)
def boundB (s:List Nat) (set:Nat):Bool:=(List.range 32).any fun i=>set.testBit i && decide (set &&& s.getD i 0=set)
def wholeB (s:List Nat) (n:Nat):Bool:=(List.range n).all fun i=>(List.range n).all fun k=>boundB s (s.getD i 0 &&& s.getD k 0)
def latT (n:Nat) (u:List Nat):Int :=
 if loopyB u (downK u n n (List.replicate 32 0)) n then 9
 else if wholeB u n && wholeB (downK u n n (List.replicate 32 0)) n then 0 else 4
def latE (n:Nat) (od:List (Int × Int)):Int :=
 if n<1∨32<n then 3 else if 1024<od.length then 5 else
 match ordL n od (upsL n) with
 | none=>3
 | some u=>latT n (closeK n n u)
def bindsE (levels:Nat):List Bs→List (Bs × Int)→Int
 | _,[]=>0
 | had,b :: r=>if nameB b.1=false then 4 else if had.contains b.1 then 8 else if b.2<0∨(levels:Int)≤b.2 then 3 else bindsE levels (had++[b.1]) r
def listE (levels:Nat) (l:List (Bs × Int)):Int:=if 32<l.length then 5 else bindsE levels [] l
def levelsE:List Bs→List Bs→Int
 | _,[]=>0
 | had,s :: r=>if nameB s=false then 4 else if had.contains s then 8 else levelsE (had++[s]) r
def rangeB (p:Po):Bool:=decide (1≤p.steps) && decide (p.steps≤65536) && (decide (1≤p.paths) && decide (p.paths≤4096)) && (decide (0≤p.nodes) && decide (p.nodes≤1048576)) && (decide (0≤p.conf) && decide (p.conf≤1099511627776))
def orE (a b:Int):Int:=if a=0 then b else a
def checkP (p:Po):Int :=
 if p.lv=[] then 4 else if 32<p.lv.length then 5 else
 orE (levelsE [] p.lv) (orE (latE p.lv.length p.od) (orE (listE p.lv.length p.ch) (orE (listE p.lv.length p.st) (if rangeB p then 0 else 3))))
structure RS where
 p:Po
 ix:Nat
 pos:Int × Int
 e:Int
def wd0:Wd:=([],0,0)
def failR (r:RS) (pos:Int × Int) (e:Int):RS:=if r.e=0 then { r with pos:=pos,e:=e } else r
def nextR (ws:List Wd) (r:RS):Wd × RS:=if r.ix<ws.length then (ws.getD r.ix wd0,{ r with ix:=r.ix+1 }) else (wd0,failR r (wpos (ws.headD wd0)) 4)
def endR (ws:List Wd) (r:RS):RS:=if r.ix<ws.length then failR r (wpos (ws.getD r.ix wd0)) 4 else r
def nameQ (x:Wd × RS):Wd × RS:=(x.1,if nameB x.1.1 then x.2 else failR x.2 (wpos x.1) 4)
def nameR (ws:List Wd) (r:RS):Wd × RS:=nameQ (nextR ws r)
def lvl (l:List Bs) (s:Bs):Int:=if l.contains s then (l.idxOf s:Int) else -1
def levelQ (x:Wd × RS):Int × RS:=(lvl x.2.p.lv x.1.1,if x.2.p.lv.contains x.1.1 then x.2 else failR x.2 (wpos x.1) 6)
def levelR (ws:List Wd) (r:RS):Int × RS:=levelQ (nameR ws r)
def numberQ (lo hi:Nat) (x:Wd × RS):Int × RS :=
 (IntKind.i64.wrap ((numR x.1.1).1:Int),
  if (numR x.1.1).2 ≠ 0 then failR x.2 (wpos x.1) (numR x.1.1).2 else if (numR x.1.1).1<lo∨hi<(numR x.1.1).1 then failR x.2 (wpos x.1) 3 else x.2)
def numberR (lo hi:Nat) (ws:List Wd) (r:RS):Int × RS:=numberQ lo hi (nextR ws r)
def manyR (n most:Nat) (ws:List Wd) (r:RS):RS:=if most≤n then failR r (wpos (ws.headD wd0)) 5 else r
def newQ (had:List Bs) (x:Wd × RS):Wd × RS:=(x.1,if had.contains x.1.1 then failR x.2 (wpos x.1) 8 else x.2)
def newR (had:List Bs) (ws:List Wd) (r:RS):Wd × RS:=newQ had (nameR ws r)
def bindR (l:List (Bs × Int)) (ws:List Wd) (r:RS):List (Bs × Int) × RS :=
 let x:=newR (l.map (·.1)) ws (manyR l.length 32 ws r)
 let y:=levelR ws x.2
 (l++[(x.1.1,y.1)],y.2)
def setP (r:RS) (f:Po→Po):RS:={ r with p:=f r.p }
def kLevel:Bs:=[108,101,118,101,108]
def kOrder:Bs:=[111,114,100,101,114]
def kSite:Bs:=[115,105,116,101]
def kMode:Bs:=[109,111,100,101]
def kSteps:Bs:=[115,116,101,112,115]
def kPaths:Bs:=[112,97,116,104,115]
def kNodes:Bs:=[110,111,100,101,115]
def kConf:Bs:=[99,111,110,102,108,105,99,116,115]
def kSens:Bs:=[115,101,110,115,105,116,105,118,101]
def kInsens:Bs:=[105,110,115,101,110,115,105,116,105,118,101]
def levelK (ws:List Wd) (r:RS):RS :=
 let x:=newR r.p.lv ws (manyR r.p.lv.length 32 ws r)
 setP x.2 fun p=>{ p with lv:=p.lv++[x.1.1] }
def orderK (ws:List Wd) (r:RS):RS :=
 let x:=levelR ws (manyR r.p.od.length 1024 ws r)
 let y:=levelR ws x.2
 setP y.2 fun p=>{ p with od:=p.od++[(x.1,y.1)] }
def chanK (ws:List Wd) (r:RS):RS:=setP (bindR r.p.ch ws r).2 fun p=>{ p with ch:=(bindR r.p.ch ws r).1 }
def siteK (ws:List Wd) (r:RS):RS:=setP (bindR r.p.st ws r).2 fun p=>{ p with st:=(bindR r.p.st ws r).1 }
def modeK (ws:List Wd) (r:RS):RS :=
 let x:=nextR ws r
 let y:=setP x.2 fun p=>{ p with sens:=decide (x.1.1=kSens) }
 if x.1.1 ≠ kSens∧x.1.1 ≠ kInsens then failR y (wpos x.1) 4 else y
def stepsK (ws:List Wd) (r:RS):RS:=setP (numberR 1 65536 ws r).2 fun p=>{ p with steps:=(numberR 1 65536 ws r).1 }
def pathsK (ws:List Wd) (r:RS):RS:=setP (numberR 1 4096 ws r).2 fun p=>{ p with paths:=(numberR 1 4096 ws r).1 }
def nodesK (ws:List Wd) (r:RS):RS:=setP (numberR 0 1048576 ws r).2 fun p=>{ p with nodes:=(numberR 0 1048576 ws r).1 }
def confK (ws:List Wd) (r:RS):RS:=setP (numberR 0 1099511627776 ws r).2 fun p=>{ p with conf:=(numberR 0 1099511627776 ws r).1 }
def readR (k:Nat) (ws:List Wd) (r:RS):RS :=
 match k with
 | 0=>levelK ws r
 | 1=>orderK ws r
 | 2=>chanK ws r
 | 3=>siteK ws r
 | 4=>modeK ws r
 | 5=>stepsK ws r
 | 6=>pathsK ws r
 | 7=>nodesK ws r
 | _=>confK ws r
def kindL:List (Bs × Bool):=[(kLevel,true),(kOrder,true),(kChan,true),(kSite,true),(kMode,false),(kSteps,false),(kPaths,false),(kNodes,false),(kConf,false)]
def stepG (word:Bs) (a:Nat):Nat→Nat→Option Nat
 | _,0=>none
 | k,m+1 =>
  if (kindL.getD k ([],false)).1=word∧((kindL.getD k ([],false)).2=true∨a<k) then some k
  else if (kindL.getD k ([],false)).2=false∧a<k then none
  else stepG word a (k+1) m
def stepP (word:Bs) (a:Nat):Option Nat:=stepG word a a (9 - a)
structure LS where
 p:Po
 k:Nat
 last:Int × Int
 ord:Bool
def ls0:LS:=⟨po0,0,(0,0),false⟩
def orderQ (st:LS):PE LS :=
 if st.ord || st.p.lv.isEmpty then .ok st
 else if latE st.p.lv.length st.p.od ≠ 0 then .error (st.last,latE st.p.lv.length st.p.od)
 else .ok { st with ord:=true }
def kindQ (st:LS) (w:Wd):Option Nat:=if st.p.lv.isEmpty && decide (stepP w.1 st.k ≠ some 0) then none else stepP w.1 st.k
def highB:Option Nat→Bool
 | none=>true
 | some k=>decide (1<k)
def bodyQ (st:LS) (ws:List Wd) (k:Nat):PE LS :=
 let r:=endR ws (readR k ws ⟨st.p,1,(0,0),0⟩)
 if r.e ≠ 0 then .error (r.pos,r.e) else .ok { st with p:=r.p,k:=k,last:=if k≤1 then wpos (ws.headD wd0) else st.last }
def lineQ (st:LS) (ws:List Wd):PE LS:=do
 let kq:=kindQ st (ws.headD wd0)
 let st ← if highB kq && decide (st.k≤1) then orderQ st else .ok st
 match kq with
 | none => .error (wpos (ws.headD wd0),4)
 | some k=>bodyQ st ws k
def linesQ:LS→List (List Wd)→PE LS
 | st,[]=>pure st
 | st,l :: r=>do
  let st ← lineQ st l
  linesQ st r
def endQ (e:Int × Int) (st:LS):PE Po:=do
 let st ← if decide (st.k≤1) then orderQ st else .ok st
 if st.k<8 then .error (e,4) else .ok st.p
def parseQ (s:Bs):PE Po :=
 if 65536<s.length then .error ((1,1),5) else
 match tok s with
 | .error (L,C) => .error (((L:Int),(C:Int)),4)
 | .ok ls=>do
  let st ← linesQ ls0 ls
  endQ (endOf s) st
def parseP (s:Bs):Po × (Int × Int) × Int:=match parseQ s with | .ok p=>(p,(0,0),0) | .error f=>(po0,f.1,f.2)
def lineL (l:List Bs) (w:Bs) (b:Bs × Int):List Bs:=[w,b.1,l.getD b.2.toNat []]
def lineW (p:Po):Bs→Bs × Int→List Bs:=lineL p.lv
def linesPW (p:Po):List (List Bs) :=
 p.lv.map (fun s=>[kLevel,s])++p.od.map (fun o=>[kOrder,p.lv.getD o.1.toNat [],p.lv.getD o.2.toNat []])++p.ch.map (lineW p kChan)++p.st.map (lineW p kSite) ++
  [[kMode,if p.sens then kSens else kInsens],[kSteps,Lib.itoa p.steps],[kPaths,Lib.itoa p.paths],[kNodes,Lib.itoa p.nodes],[kConf,Lib.itoa p.conf]]
def textP (p:Po):Bs:=textT ((linesPW p).map jn)
def printP (p:Po):Bs × Int:=if checkP p ≠ 0 then ([],checkP p) else if 65536<(textP p).length then ([],5) else (textP p,0)
def p1P:Po:=⟨[[108,111,119],[104,105,103,104]],[(0,1)],[([112,117,98],0),([115,101,99],1)],[],true,20,16,0,0⟩
theorem bindsE_iff (n:Nat):∀ (l:List (Bs × Int)) (had:List Bs),bindsE n had l=0 ↔ (∀ b ∈ l,nameB b.1=true∧b.1 ∉ had∧0≤b.2∧b.2<(n:Int))∧(l.map (·.1)).Nodup
 | [],had=>by simp [bindsE]
 | b :: r,had=>by
  unfold bindsE
  by_cases h1:nameB b.1=false
  ·rw [if_pos h1]
   constructor
   ·intro h;cases h
   ·rintro ⟨h,_⟩
    have:=(h b (List.mem_cons_self ..)).1
    rw [h1] at this;cases this
  rw [if_neg h1]
  by_cases h2:had.contains b.1
  ·rw [if_pos h2]
   constructor
   ·intro h;cases h
   ·rintro ⟨h,_⟩
    exact absurd (List.contains_iff_mem.1 h2) (h b (List.mem_cons_self ..)).2.1
  rw [if_neg h2]
  by_cases h3:b.2<0∨(n:Int)≤b.2
  ·rw [if_pos h3]
   constructor
   ·intro h;cases h
   ·rintro ⟨h,_⟩
    have:=(h b (List.mem_cons_self ..)).2.2
    omega
  rw [if_neg h3,bindsE_iff n r (had++[b.1])]
  have h2':b.1 ∉ had:=fun e=>h2 (List.contains_iff_mem.2 e)
  simp only [Bool.not_eq_false] at h1
  constructor
  ·rintro ⟨ha,hb⟩
   refine ⟨fun c hc=>?_,?_⟩
   ·rcases List.mem_cons.1 hc with rfl | hc
    ·exact ⟨h1,h2',by omega,by omega⟩
    ·obtain ⟨q1,q2,q3⟩:=ha c hc
     exact ⟨q1,fun e=>q2 (List.mem_append_left _ e),q3⟩
   ·rw [List.map_cons,List.nodup_cons]
    refine ⟨fun e=>?_,hb⟩
    obtain ⟨c,hc,e⟩:=List.mem_map.1 e
    exact (ha c hc).2.1 (by rw [e];simp)
  ·rintro ⟨ha,hb⟩
   rw [List.map_cons,List.nodup_cons] at hb
   refine ⟨fun c hc=>?_,hb.2⟩
   obtain ⟨q1,q2,q3⟩:=ha c (List.mem_cons_of_mem _ hc)
   refine ⟨q1,fun e=>?_,q3⟩
   rcases List.mem_append.1 e with e | e
   ·exact q2 e
   ·rw [List.mem_singleton] at e
    exact hb.1 (by rw [← e];exact List.mem_map_of_mem hc)
theorem levelsE_iff:∀ (l had:List Bs),levelsE had l=0 ↔ (∀ s ∈ l,nameB s=true∧s ∉ had)∧l.Nodup
 | [],had=>by simp [levelsE]
 | b :: r,had=>by
  unfold levelsE
  by_cases h1:nameB b=false
  ·rw [if_pos h1]
   constructor
   ·intro h;cases h
   ·rintro ⟨h,_⟩
    have:=(h b (List.mem_cons_self ..)).1
    rw [h1] at this;cases this
  rw [if_neg h1]
  by_cases h2:had.contains b
  ·rw [if_pos h2]
   constructor
   ·intro h;cases h
   ·rintro ⟨h,_⟩
    exact absurd (List.contains_iff_mem.1 h2) (h b (List.mem_cons_self ..)).2
  rw [if_neg h2,levelsE_iff r (had++[b])]
  have h2':b ∉ had:=fun e=>h2 (List.contains_iff_mem.2 e)
  simp only [Bool.not_eq_false] at h1
  constructor
  ·rintro ⟨ha,hb⟩
   refine ⟨fun c hc=>?_,?_⟩
   ·rcases List.mem_cons.1 hc with rfl | hc
    ·exact ⟨h1,h2'⟩
    ·obtain ⟨q1,q2⟩:=ha c hc
     exact ⟨q1,fun e=>q2 (List.mem_append_left _ e)⟩
   ·rw [List.nodup_cons]
    exact ⟨fun e=>(ha b e).2 (by simp),hb⟩
  ·rintro ⟨ha,hb⟩
   rw [List.nodup_cons] at hb
   refine ⟨fun c hc=>?_,hb.2⟩
   obtain ⟨q1,q2⟩:=ha c (List.mem_cons_of_mem _ hc)
   refine ⟨q1,fun e=>?_⟩
   rcases List.mem_append.1 e with e | e
   ·exact q2 e
   ·rw [List.mem_singleton] at e
    exact hb.1 (by rw [← e];exact hc)
theorem orE_zero {a b:Int}:orE a b=0 ↔ a=0∧b=0:=by unfold orE;split <;> omega
structure PoOk (p:Po):Prop where
 ne:p.lv ≠ []
 len:p.lv.length≤32
 lv:(∀ s ∈ p.lv,nameB s=true)∧p.lv.Nodup
 lat:latE p.lv.length p.od=0
 ch:p.ch.length≤32∧(∀ b ∈ p.ch,nameB b.1=true∧0≤b.2∧b.2<(p.lv.length:Int))∧(p.ch.map (·.1)).Nodup
 st:p.st.length≤32∧(∀ b ∈ p.st,nameB b.1=true∧0≤b.2∧b.2<(p.lv.length:Int))∧(p.st.map (·.1)).Nodup
 rg:rangeB p=true
theorem listE_iff (n:Nat) (l:List (Bs × Int)):listE n l=0 ↔ l.length≤32∧(∀ b ∈ l,nameB b.1=true∧0≤b.2∧b.2<(n:Int))∧(l.map (·.1)).Nodup:=by
 unfold listE
 split
 ·constructor
  ·intro h;cases h
  ·rintro ⟨h,_⟩;omega
 ·rw [bindsE_iff]
  simp only [List.not_mem_nil,not_false_eq_true,true_and]
  exact ⟨fun h=>⟨by omega,h⟩,fun h=>h.2⟩
theorem checkP_iff (p:Po):checkP p=0 ↔ PoOk p:=by
 unfold checkP
 by_cases h1:p.lv=[]
 ·rw [if_pos h1]
  exact ⟨fun h=>(by cases h),fun h=>absurd h1 h.ne⟩
 rw [if_neg h1]
 by_cases h2:32<p.lv.length
 ·rw [if_pos h2]
  exact ⟨fun h=>(by cases h),fun h=>absurd h.len (by omega)⟩
 rw [if_neg h2,orE_zero,orE_zero,orE_zero,orE_zero,levelsE_iff,listE_iff,listE_iff]
 simp only [List.not_mem_nil,not_false_eq_true,and_true]
 constructor
 ·rintro ⟨a,b,c,d,e⟩
  exact ⟨h1,by omega,a,b,c,d,by by_cases h:rangeB p=true;exact h;rw [if_neg h] at e;cases e⟩
 ·intro h
  exact ⟨h.lv,h.lat,h.ch,h.st,by rw [if_pos h.rg]⟩
theorem next_ok {ws:List Wd} {r:RS} (h:r.ix<ws.length):nextR ws r=(ws.getD r.ix wd0,{ r with ix:=r.ix+1 }):=if_pos h
theorem lat_pairs {n:Nat} {od:List (Int × Int)} (h:latE n od=0):od.length≤1024∧∀ o ∈ od,pairB n o=true:=by
 unfold latE at h
 split at h
 ·cases h
 split at h
 ·cases h
 rename_i h1 h2
 refine ⟨by omega,?_⟩
 have:∀ (od:List (Int × Int)) (u v:List Nat),ordL n od u=some v→∀ o ∈ od,pairB n o=true:=by
  intro od
  induction od with
  | nil=>intro _ _ _ o ho;cases ho
  | cons q r ih =>
   intro u v hv o ho
   unfold ordL at hv
   split at hv
   ·rename_i hp
    rcases List.mem_cons.1 ho with rfl | ho
    ·exact hp
    ·exact ih _ _ hv o ho
   ·cases hv
 cases hq:ordL n od (upsL n) with
 | none=>rw [hq] at h;cases h
 | some u=>exact this od _ u hq
theorem getD_name {l:List Bs} (h:∀ s ∈ l,nameB s=true) {b:Int} (h0:0≤b) (h1:b<(l.length:Int)):nameB (l.getD b.toNat [])=true:=by
 have hlt:b.toNat<l.length:=by omega
 have e:l.getD b.toNat []=l[b.toNat]:=by rw [List.getD_eq_getElem?_getD,List.getElem?_eq_getElem hlt];rfl
 rw [e];exact h _ (List.getElem_mem _)
end Go.Proofs.YtbijamcoibonkaaDoor
namespace Go.Proofs.YtbijamcoibonkaaDoor
set_option linter.unusedSimpArgs false
set_option linter.unusedVariables false
open Go.RowKit Go.Shelf
attribute [local go_sem] Oper.semAt_some
open Go.RowKit
abbrev By:=List UInt8
def sV (s:By):Value := .string ⟨s.toArray⟩
def nV (n:Nat):Value := .int .u64 (n:Int)
def Strs (R:Nat→Prop) (w:World) (v:Value) (l:List By):Prop:=Sl R w v (l.map sV)
def Nums (R:Nat→Prop) (w:World) (v:Value) (l:List Nat):Prop:=Sl R w v (l.map nV)
def NLL (R:Nat→Prop) (w:World) (v:Value) (ls:List (List Nat)):Prop :=
 ∃ vs,Sl R w v vs∧vs.length=ls.length∧∀ i (h:i<ls.length) (h':i<vs.length),Nums R w vs[i] ls[i]
theorem Strs.op {R:Nat→Prop} {w:World} {v:Value} {xs:List By} (h:Strs R w v xs) :
  ∃ p c,v = .slice p xs.length c∧xs.length≤c∧c≤maxLen∧xs.length≤140737488355328∧RowR R w p (xs.map sV):=by
 obtain ⟨p,c,e,h1,h2,h3,hr⟩:=h
 rw [List.length_map] at e h1 h3
 exact ⟨p,c,e,h1,h2,h3,hr⟩
theorem Nums.op {R:Nat→Prop} {w:World} {v:Value} {xs:List Nat} (h:Nums R w v xs) :
  ∃ p c,v = .slice p xs.length c∧xs.length≤c∧c≤maxLen∧xs.length≤140737488355328∧RowR R w p (xs.map nV):=by
 obtain ⟨p,c,e,h1,h2,h3,hr⟩:=h
 rw [List.length_map] at e h1 h3
 exact ⟨p,c,e,h1,h2,h3,hr⟩
theorem NLL.op {R:Nat→Prop} {w:World} {v:Value} {xs:List (List Nat)} (h:NLL R w v xs) :
  ∃ p c vs,v = .slice p xs.length c∧xs.length≤c∧c≤maxLen∧xs.length≤140737488355328∧RowR R w p vs∧vs.length=xs.length∧∀ i (h:i<xs.length) (h':i<vs.length),Nums R w vs[i] xs[i]:=by
 obtain ⟨vs,⟨p,c,e,h1,h2,h3,hr⟩,hl,hx⟩:=h
 exact ⟨p,c,vs,by rw [← hl];exact e,by omega,h2,by omega,hr,hl,hx⟩
theorem Strs.keep {R R':Nat→Prop} {w w':World} {v:Value} {xs:List By} (h:Strs R w v xs) (hf:∀ k,R k→R' k∧w'.heap[k]?=w.heap[k]?):Strs R' w' v xs:=Sl.keep h hf
theorem Nums.keep {R R':Nat→Prop} {w w':World} {v:Value} {xs:List Nat} (h:Nums R w v xs) (hf:∀ k,R k→R' k∧w'.heap[k]?=w.heap[k]?):Nums R' w' v xs:=Sl.keep h hf
theorem NLL.keep {R R':Nat→Prop} {w w':World} {v:Value} {xs:List (List Nat)} (h:NLL R w v xs) (hf:∀ k,R k→R' k∧w'.heap[k]?=w.heap[k]?):NLL R' w' v xs :=
 let ⟨vs,h1,h2,h3⟩:=h;⟨vs,Sl.keep h1 hf,h2,fun i hi hi'=>(h3 i hi hi').keep hf⟩
theorem Strs.drewN {R:Nat→Prop} {w:World} {v:Value} {xs:List By} (h:Strs R w v xs) (n:Nat):Strs R (w.drewN n) v xs:=h.keep fun k hk=>⟨hk,rfl⟩
theorem Nums.drewN {R:Nat→Prop} {w:World} {v:Value} {xs:List Nat} (h:Nums R w v xs) (n:Nat):Nums R (w.drewN n) v xs:=h.keep fun k hk=>⟨hk,rfl⟩
theorem NLL.drewN {R:Nat→Prop} {w:World} {v:Value} {xs:List (List Nat)} (h:NLL R w v xs) (n:Nat):NLL R (w.drewN n) v xs:=h.keep fun k hk=>⟨hk,rfl⟩
theorem Strs.below {w w':World} {v:Value} {xs:List By} (h:Strs (·<w.heap.size) w v xs) (hb:Below w.heap.size w w'):Strs (·<w'.heap.size) w' v xs:=h.keep fun k hk=>⟨Nat.lt_of_lt_of_le hk hb.size,hb.block k hk⟩
theorem Nums.below {w w':World} {v:Value} {xs:List Nat} (h:Nums (·<w.heap.size) w v xs) (hb:Below w.heap.size w w'):Nums (·<w'.heap.size) w' v xs:=h.keep fun k hk=>⟨Nat.lt_of_lt_of_le hk hb.size,hb.block k hk⟩
theorem NLL.below {w w':World} {v:Value} {xs:List (List Nat)} (h:NLL (·<w.heap.size) w v xs) (hb:Below w.heap.size w w'):NLL (·<w'.heap.size) w' v xs:=h.keep fun k hk=>⟨Nat.lt_of_lt_of_le hk hb.size,hb.block k hk⟩
theorem Strs.nil {R:Nat→Prop} {w:World}:Strs R w (.slice none 0 0) []:=Sl.nil
theorem Nums.nil {R:Nat→Prop} {w:World}:Nums R w (.slice none 0 0) []:=Sl.nil
theorem NLL.nil {R:Nat→Prop} {w:World}:NLL R w (.slice none 0 0) []:=⟨[],Sl.nil,rfl,fun i h=>absurd h (by simp)⟩
theorem take_nextL {α:Type} {a b:List α} {k:Nat} (h:a.take k=b.take k) (ha:k<a.length) (hb:k<b.length) (he:a[k]=b[k]):a.take (k+1)=b.take (k+1):=by
 rw [List.take_add_one,List.take_add_one,h,List.getElem?_eq_getElem ha,List.getElem?_eq_getElem hb,he]
theorem ne_atL {α:Type} {a b:List α} {k:Nat} (ha:k<a.length) (hb:k<b.length) (he:a[k] ≠ b[k]):a ≠ b:=by
 rintro rfl;exact he rfl
theorem eq_fullL {α:Type} {a b:List α} (h:a.take a.length=b.take a.length) (hl:a.length=b.length):a=b:=by
 rw [List.take_of_length_le (Nat.le_refl _),List.take_of_length_le (by omega)] at h;exact h
theorem str_neF {x y:By} (h:x ≠ y):(x == y)=false:=by rw [beq_eq_false_iff_ne];exact h
end Go.Proofs.YtbijamcoibonkaaDoor
