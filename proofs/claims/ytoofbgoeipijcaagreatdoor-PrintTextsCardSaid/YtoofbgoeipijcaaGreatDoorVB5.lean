/-
 Programs: the plain model of what package prog checks (no program in sight).
-/
import Derived.Test.YtoofbgoeipijcaaGreatDoorVSTkN
import Derived.MapKept
import Derived.IntWalk
import Derived.Laws.RangeString
namespace Go.Proofs.YtoofbgoeipijcaaGreatDoor
set_option linter.unusedSimpArgs false
set_option linter.unusedVariables false
open Go.RowKit Go.Shelf
structure Ag where
 nm:Bs
 num:Nat
deriving DecidableEq
structure In where
 kind:Nat
 op:Nat
 dst:Bs
 nm:Bs
 args:List Ag
 pos:Int × Int
deriving DecidableEq
structure Ar where
 nm:Bs
 size:Int
deriving DecidableEq
structure Fu where
 nm:Bs
 params:List Bs
 code:List In
 pos:Int × Int
deriving DecidableEq
structure Pg where
 width:Int
 chans:List Bs
 arrays:List Ar
 funcs:List Fu
 main:List In
deriving DecidableEq
instance:Inhabited In:=⟨⟨0,0,[],[],[],(0,0)⟩⟩
instance:Inhabited Fu:=⟨⟨[],[],[],(0,0)⟩⟩
def opL:List Bs:=[[110,111,116],[110,101,103],[97,100,100],[115,117,98],[109,117,108],[100,105,118],[114,101,109],[97,110,100],[111,114],[120,111,114],
 [115,104,108],[115,104,114],[115,97,114],[101,113],[110,101],[108,116],[108,101],[115,108,116],[115,108,101],[105,116,101]]
def kwL:List Bs:=[[119,105,100,116,104],[99,104,97,110],[97,114,114,97,121],[102,117,110,99],[109,97,105,110],[101,110,100],[108,111,97,100],[115,116,111,114,101],
 [99,97,108,108],[105,110],[111,117,116],[114,101,108,101,97,115,101],[106,117,109,112],[105,102],[104,97,108,116],[114,101,116]]
def opB (s:Bs):Bool:=opL.contains s
def kwB (s:Bs):Bool:=kwL.contains s
def namedB (s:Bs):Bool:=nameB s && !opB s && !kwB s
def arityM (o:Nat):Nat:=if o≤1 then 0 else if o≤3 then 1 else if o=21 then 3 else 2
def fieldsL:List (Bool × Bool × Int):=[(true,false,1),(true,false,0),(true,true,1),(false,true,2),(true,true,-1),(true,true,0),(false,true,1),(true,true,1),(false,true,0),
 (false,true,1),(false,true,0),(false,false,0),(false,false,1)]
def argB (a:Ag):Bool:=decide (a.nm=[]) || (namedB a.nm && decide (a.num=0))
def wantM (x:In):Int:=if x.kind=1 then (arityM x.op:Int) else (fieldsL.getD x.kind (false,false,0)).2.2
def fieldB (f:Bool) (s:Bs):Bool:=if f then namedB s else decide (s=[])
def opOkB (x:In):Bool:=if x.kind=1 then decide (2≤x.op) && decide (x.op≤20) else decide (x.op=0)
def formB (x:In):Bool:=decide (x.kind<13) && opOkB x && fieldB (fieldsL.getD x.kind (false,false,0)).1 x.dst && fieldB (fieldsL.getD x.kind (false,false,0)).2.1 x.nm
 && (decide (wantM x<0) || decide ((x.args.length:Int)=wantM x)) && decide (x.args.length≤32) && x.args.all argB
abbrev Flt:=(Int × Int) × Int
def declM (pos:Int × Int):List Bs→List Bs→Option Flt
 | _,[]=>none
 | seen,s :: r=>if namedB s=false then some (pos,4) else if seen.contains s then some (pos,8) else declM pos (seen++[s]) r
def arrsM:List Bs→List Ar→Option Flt
 | _,[]=>none
 | seen,a :: r=>if namedB a.nm=false then some ((0,0),4) else if seen.contains a.nm then some ((0,0),8) else if a.size<1∨64<a.size then some ((0,0),3) else arrsM (seen++[a.nm]) r
def stepM (chans arrays:List Bs) (main:Bool) (labels sites:List Bs) (x:In):Except Flt (List Bs × List Bs) :=
 if (formB x && !(main && decide (x.kind=12)))=false then .error (x.pos,4)
 else if x.kind=5∨x.kind=6 then (if chans.contains x.nm then .ok (labels,sites) else .error (x.pos,6))
 else if x.kind=2∨x.kind=3 then (if arrays.contains x.nm then .ok (labels,sites) else .error (x.pos,6))
 else if x.kind=10 then (if labels.contains x.nm then .error (x.pos,8) else .ok (labels++[x.nm],sites))
 else if x.kind=7 then (if sites.contains x.nm then .ok (labels,sites) else if sites.length<32 then .ok (labels,sites++[x.nm]) else .error (x.pos,5))
 else .ok (labels,sites)
def bodyM (chans arrays:List Bs) (main:Bool):List In→List Bs→List Bs→Except Flt (List Bs × List Bs)
 | [],labels,sites => .ok (labels,sites)
 | x :: r,labels,sites=>match stepM chans arrays main labels sites x with
  | .error f => .error f
  | .ok (l,s)=>bodyM chans arrays main r l s
def instrsM (chans arrays:List Bs) (main:Bool) (pos:Int × Int) (code:List In) (sites:List Bs):Except Flt (List Bs × List Bs) :=
 if 1024<code.length then .error (pos,5) else bodyM chans arrays main code [] sites
def funcsM (chans arrays:List Bs):List Bs→List (List Bs)→List Bs→List Fu→Except Flt (List (List Bs) × List Bs)
 | _,labels,sites,[] => .ok (labels,sites)
 | seen,labels,sites,f :: r =>
  if namedB f.nm=false then .error (f.pos,4) else if seen.contains f.nm then .error (f.pos,8) else
  if 32<f.params.length then .error (f.pos,5) else
  match declM f.pos [] f.params with
  | some x => .error x
  | none=>match instrsM chans arrays false f.pos f.code sites with
   | .error x => .error x
   | .ok (l,s)=>funcsM chans arrays (seen++[f.nm]) (labels++[l]) s r
def paramsOf (p:Pg) (s:Bs):Option Nat:=(p.funcs.find? fun f=>decide (f.nm=s)).map fun f=>f.params.length
def targetM (p:Pg) (labels:List Bs) (x:In):Option Flt :=
 if x.kind=8∨x.kind=9 then (if labels.contains x.nm then none else some (x.pos,6))
 else if x.kind=4 then (match paramsOf p x.nm with
  | none=>some (x.pos,6)
  | some n=>if n=x.args.length then none else some (x.pos,4))
 else none
def targetsM (p:Pg) (labels:List Bs):List In→Option Flt
 | []=>none
 | x :: r=>match targetM p labels x with
  | some f=>some f
  | none=>targetsM p labels r
def callsM (code:List In):List Bs:=(code.filter fun x=>decide (x.kind=4)).map In.nm
def codeOf (p:Pg) (s:Bs):List In:=((p.funcs.find? fun f=>decide (f.nm=s)).map Fu.code).getD []
def pushM (name:Bs):List Bs→List Bs→List Bs→Bool × List Bs × List Bs
 | [],seen,todo=>(false,seen,todo)
 | g :: r,seen,todo=>if g=name then (true,seen,todo) else if seen.contains g then pushM name r seen todo else pushM name r (seen++[g]) (todo++[g])
def loopsM (p:Pg) (name:Bs):Nat→List Bs→List Bs→Bool
 | 0,_,_=>false
 | k+1,seen,todo=>if todo=[] then false else
  let r:=pushM name (callsM (codeOf p (todo.getLastD []))) seen todo.dropLast
  if r.1 then true else loopsM p name k r.2.1 r.2.2
def loopB (p:Pg) (name:Bs):Bool:=loopsM p name (2*p.funcs.length+3) [] [name]
def loopsAllM (p:Pg):List Fu→Option Flt
 | []=>none
 | f :: r=>if loopB p f.nm then some (f.pos,9) else loopsAllM p r
def laterM (p:Pg):List (List Bs)→List Fu→Option Flt
 | _,[]=>none
 | ls,f :: r=>match targetsM p (ls.headD []) f.code with
  | some x=>some x
  | none=>laterM p ls.tail r
def checkM (p:Pg):Flt :=
 if p.width<1∨64<p.width then ((0,0),3) else
 if 32<p.chans.length then ((0,0),5) else
 match declM (0,0) [] p.chans with
 | some f=>f
 | none =>
 if 32<p.arrays.length then ((0,0),5) else
 match arrsM [] p.arrays with
 | some f=>f
 | none =>
 if 32<p.funcs.length then ((0,0),5) else
 match funcsM p.chans (p.arrays.map Ar.nm) [] [] [] p.funcs with
 | .error f=>f
 | .ok (labels,sites) =>
 match instrsM p.chans (p.arrays.map Ar.nm) true (0,0) p.main sites with
 | .error f=>f
 | .ok (ml,_) =>
 match laterM p labels p.funcs with
 | some f=>f
 | none =>
 match targetsM p ml p.main with
 | some f=>f
 | none =>
 match loopsAllM p p.funcs with
 | some f=>f
 | none=>((0,0),0)
end Go.Proofs.YtoofbgoeipijcaaGreatDoor
namespace Go.Proofs.YtoofbgoeipijcaaGreatDoor
set_option linter.unusedSimpArgs false
set_option linter.unusedVariables false
open Go.RowKit Go.Shelf
attribute [local go_sem] Oper.semAt_some
theorem heap_set_cellS {W:World} {g i:Nat} {t:TypeId} {cs:Array Value} (h:W.heap[g]?=some (.cells cs t (0,0))) (u:Value):(W.setCell ⟨g,i,none⟩ u).heap[g]?=some (.cells (cs.setIfInBounds i u) t (0,0)):=heap_setCell_same W g i cs t u h
theorem setRow_below {a:World} (w:World) (B g:Nat) (cs:Array Value) (h:B≤g) (hb:Below B a w):Below B a (w.setRow g cs):=by
 exact hb.trans ⟨rfl,rfl,rfl,by simp,fun k hk=>setRow_other w g k cs (by omega)⟩
def arrK (k:Nat):Array Value:=(List.replicate k (Value.int .u8 2)++List.replicate (22 - k) (Value.int .u8 0)).toArray
theorem arrK_at (k:Nat) (h:k<22):(arrK k)[k]?=some (.int .u8 0):=by
 unfold arrK
 rw [List.getElem?_toArray,List.getElem?_append_right (by simp),List.length_replicate,Nat.sub_self,show 22 - k=(22 - (k+1))+1 by omega,List.replicate_succ]
 rfl
theorem arrK_set (k:Nat) (h:k<22):(arrK k).setIfInBounds k (.int .u8 2)=arrK (k+1):=by
 unfold arrK
 rw [List.setIfInBounds_toArray]
 congr 1
 rw [List.set_append_right _ _ (by simp),List.length_replicate,Nat.sub_self,show 22 - k=(22 - (k+1))+1 by omega,List.replicate_succ,List.set_cons_zero,List.replicate_succ',List.append_assoc]
 rfl
def fin22:Array Value:=#[.int .u8 0,.int .u8 0,.int .u8 1,.int .u8 1,.int .u8 2,.int .u8 2,.int .u8 2,.int .u8 2,.int .u8 2,.int .u8 2,.int .u8 2,.int .u8 2,.int .u8 2,.int .u8 2,.int .u8 2,.int .u8 2,.int .u8 2,.int .u8 2,.int .u8 2,.int .u8 2,.int .u8 2,.int .u8 3]
set_option maxRecDepth 100000 in
set_option maxHeartbeats 2000000 in
theorem arities_any (w:World):Calls Tryz.prog 219 #[] w fun e w'=>e = .returned (.agg fin22)∧Below w.heap.size w w':=by
 obtain ⟨W0,hW0⟩:∃ W,(w.alloc (.cells #[.int .u8 0,.int .u8 0,.int .u8 0,.int .u8 0,.int .u8 0,.int .u8 0,.int .u8 0,.int .u8 0,.int .u8 0,.int .u8 0,.int .u8 0,.int .u8 0,.int .u8 0,.int .u8 0,.int .u8 0,.int .u8 0,.int .u8 0,.int .u8 0,.int .u8 0,.int .u8 0,.int .u8 0,.int .u8 0] 239)).alloc (.cells #[.int .u8 0,.int .u8 0,.int .u8 0,.int .u8 0,.int .u8 0,.int .u8 0,.int .u8 0,.int .u8 0,.int .u8 0,.int .u8 0,.int .u8 0,.int .u8 0,.int .u8 0,.int .u8 0,.int .u8 0,.int .u8 0,.int .u8 0,.int .u8 0,.int .u8 0,.int .u8 0,.int .u8 0,.int .u8 0] 239)=W:=⟨_,rfl⟩
 have hb0:Below w.heap.size w W0:=by rw [← hW0];exact ((Below.refl _ _).alloc (Nat.le_refl _) _).alloc (by rw [World.size_alloc];omega) _
 have hc0:W0.heap[w.heap.size]?=some (.cells #[.int .u8 0,.int .u8 0,.int .u8 0,.int .u8 0,.int .u8 0,.int .u8 0,.int .u8 0,.int .u8 0,.int .u8 0,.int .u8 0,.int .u8 0,.int .u8 0,.int .u8 0,.int .u8 0,.int .u8 0,.int .u8 0,.int .u8 0,.int .u8 0,.int .u8 0,.int .u8 0,.int .u8 0,.int .u8 0] 239 (0,0)):=by rw [← hW0,heap_al,if_neg (by rw [World.size_alloc];omega),heap_al,if_pos rfl]
 have hc1:W0.heap[w.heap.size+1]?=some (.cells (arrK 0) 239 (0,0)):=by rw [← hW0,heap_al,if_pos (by rw [World.size_alloc])];rfl
 have HB0:=hid hb0;have HC0:=hid hc0;have HC1:=hid hc1
 have HWW:=hid hW0
 clear hb0 hc0 hc1 hW0
 go_enter Tryz.func219,Tryz.ntmps219
 go_wp2_with fail
 rw [HWW.out]
 go_loopw [3] (fun iv wr=>∃ k:Nat,k≤22∧iv = .int .i64 (k:Int)∧wr.heap[w.heap.size+1]?=some (.cells (arrK k) 239 (0,0))∧wr.heap[w.heap.size]?=some (.cells #[.int .u8 0,.int .u8 0,.int .u8 0,.int .u8 0,.int .u8 0,.int .u8 0,.int .u8 0,.int .u8 0,.int .u8 0,.int .u8 0,.int .u8 0,.int .u8 0,.int .u8 0,.int .u8 0,.int .u8 0,.int .u8 0,.int .u8 0,.int .u8 0,.int .u8 0,.int .u8 0,.int .u8 0,.int .u8 0] 239 (0,0))∧Below w.heap.size w wr) (fun iv _=>22 - (intOf iv).toNat)
 case atStart=>exact ⟨0,by omega,rfl,HC1.out,HC0.out,HB0.out⟩
 case round =>
  obtain ⟨k,hk,rfl,h1,h0,hb⟩:=hrel
  obtain ⟨wo,rfl⟩:∃ wo:World,wo=wr:=⟨_,rfl⟩
  have H1:=hid h1;have H0:=hid h0;have HB:=hid hb
  by_cases hlt:k<22
  ·have d22:decide ((k:Int)<22)=true:=by simp;omega
   have e1:wo.cell? ⟨w.heap.size+1,k,none⟩=some (.int .u8 0):=by rw [cell_of_row wo _ k _ _ _ h1];exact arrK_at k hlt
   have f1:wo.frozen? ⟨w.heap.size+1,k,none⟩=false:=frozen_of_row wo _ k _ _ h1
   have HST:=hid (arrK_set k hlt)
   have HLT:=hid hlt
   clear h1 h0 hb
   go_wp2
   go_roundw
   case rel=>exact ⟨k+1,by have:=HLT.out;omega,by go_num,by rw [← HST.out];exact heap_set_cellS H1.out _,(Below.heap_setCell _ _ _ _ (by show w.heap.size ≠ w.heap.size+1;omega)).trans H0.out,HB.out.setCell (by show w.heap.size≤w.heap.size+1;omega) _⟩
   case measure=>(have:=HLT.out;simp [intOf];omega)
  ·obtain rfl:k=22:=by omega
   have h1':wo.heap[w.heap.size+1]?=some (.cells #[.int .u8 2,.int .u8 2,.int .u8 2,.int .u8 2,.int .u8 2,.int .u8 2,.int .u8 2,.int .u8 2,.int .u8 2,.int .u8 2,.int .u8 2,.int .u8 2,.int .u8 2,.int .u8 2,.int .u8 2,.int .u8 2,.int .u8 2,.int .u8 2,.int .u8 2,.int .u8 2,.int .u8 2,.int .u8 2] 239 (0,0)):=h1
   have H1:=hid h1'
   have d22:decide ((((22:Nat):Int))<22)=false:=by decide
   have y0:wo.cell? ⟨w.heap.size+1,0,none⟩=some (.int .u8 2):=(by rw [cell_of_row wo _ 0 _ _ _ h1'];rfl)
   have e0:wo.frozen? ⟨w.heap.size+1,0,none⟩=false:=frozen_of_row wo _ 0 _ _ h1'
   have y1:wo.cell? ⟨w.heap.size+1,1,none⟩=some (.int .u8 2):=(by rw [cell_of_row wo _ 1 _ _ _ h1'];rfl)
   have e1:wo.frozen? ⟨w.heap.size+1,1,none⟩=false:=frozen_of_row wo _ 1 _ _ h1'
   have y2:wo.cell? ⟨w.heap.size+1,2,none⟩=some (.int .u8 2):=(by rw [cell_of_row wo _ 2 _ _ _ h1'];rfl)
   have e2:wo.frozen? ⟨w.heap.size+1,2,none⟩=false:=frozen_of_row wo _ 2 _ _ h1'
   have y3:wo.cell? ⟨w.heap.size+1,3,none⟩=some (.int .u8 2):=(by rw [cell_of_row wo _ 3 _ _ _ h1'];rfl)
   have e3:wo.frozen? ⟨w.heap.size+1,3,none⟩=false:=frozen_of_row wo _ 3 _ _ h1'
   have y21:wo.cell? ⟨w.heap.size+1,21,none⟩=some (.int .u8 2):=(by rw [cell_of_row wo _ 21 _ _ _ h1'];rfl)
   have e21:wo.frozen? ⟨w.heap.size+1,21,none⟩=false:=frozen_of_row wo _ 21 _ _ h1'
   clear h1 h0 hb h1'
   go_wp2_with (obtain ⟨w7,hw7⟩:∃ W,(((((wo).setCell ⟨w.heap.size+1,0,none⟩ (.int .u8 0)).setCell ⟨w.heap.size+1,1,none⟩ (.int .u8 0)).setCell ⟨w.heap.size+1,2,none⟩ (.int .u8 1)).setCell ⟨w.heap.size+1,3,none⟩ (.int .u8 1)).setCell ⟨w.heap.size+1,21,none⟩ (.int .u8 3)=W:=⟨_,rfl⟩;rw [hw7];have hg7:w7.heap[w.heap.size+1]?=some (.cells fin22 239 (0,0)):=(by rw [← hw7];exact heap_set_cellS (heap_set_cellS (heap_set_cellS (heap_set_cellS (heap_set_cellS H1.out _) _) _) _) _);have hz7:w7.heap[w.heap.size]?=some (.cells #[.int .u8 0,.int .u8 0,.int .u8 0,.int .u8 0,.int .u8 0,.int .u8 0,.int .u8 0,.int .u8 0,.int .u8 0,.int .u8 0,.int .u8 0,.int .u8 0,.int .u8 0,.int .u8 0,.int .u8 0,.int .u8 0,.int .u8 0,.int .u8 0,.int .u8 0,.int .u8 0,.int .u8 0,.int .u8 0] 239 (0,0)):=(by rw [← hw7];exact (Below.heap_setCell _ _ _ _ (by show w.heap.size ≠ w.heap.size+1;omega)).trans ((Below.heap_setCell _ _ _ _ (by show w.heap.size ≠ w.heap.size+1;omega)).trans ((Below.heap_setCell _ _ _ _ (by show w.heap.size ≠ w.heap.size+1;omega)).trans ((Below.heap_setCell _ _ _ _ (by show w.heap.size ≠ w.heap.size+1;omega)).trans ((Below.heap_setCell _ _ _ _ (by show w.heap.size ≠ w.heap.size+1;omega)).trans H0.out)))));have hb7:Below w.heap.size w w7:=(by rw [← hw7];exact ((((HB.out.setCell (by show w.heap.size≤w.heap.size+1;omega) _).setCell (by show w.heap.size≤w.heap.size+1;omega) _).setCell (by show w.heap.size≤w.heap.size+1;omega) _).setCell (by show w.heap.size≤w.heap.size+1;omega) _).setCell (by show w.heap.size≤w.heap.size+1;omega) _);refine wpList_load_row rfl 239 (.tmp 1) rfl (w.heap.size+1) rfl 239 fin22 (0,0) (.array 22 5) hg7 (by as_aux_lemma=>kernel_rfl) rfl (by as_aux_lemma=>kernel_rfl) ?_;refine wpList_store_row rfl 239 (.tmp 0) (.tmp 14) rfl w.heap.size fin22 rfl rfl 239 _ hz7 (by as_aux_lemma=>kernel_rfl) (by as_aux_lemma=>kernel_rfl) (by as_aux_lemma=>kernel_rfl) ?_;have hg8:=setRow_heap w7 w.heap.size _ fin22 _ _ hz7;have hb8:=setRow_below w7 w.heap.size w.heap.size fin22 (Nat.le_refl _) hb7;generalize World.setRow w7 w.heap.size fin22=w8 at hg8 hb8 ⊢;have HG8:=hid hg8;have HB8:=hid hb8;clear y0 e0 y1 e1 y2 e2 y3 e3 y21 e21 hw7 hg7 hz7 hb7 hg8 hb8)
   refine bodyPost_ret (results_cell_row (g:=w.heap.size) (t:=239) (cs:=fin22) (fr:=(0,0)) (d := .array 22 5) rfl _ _ rfl HG8.out (by as_aux_lemma=>kernel_rfl) rfl (by as_aux_lemma=>kernel_rfl)) rfl ⟨rfl,HB8.out⟩
def allB:Bs:=[32,110,111,116,32,110,101,103,32,97,100,100,32,115,117,98,32,109,117,108,32,100,105,118,32,114,101,109,32,97,110,100,32,111,114,32,120,111,114,32,115,104,108,32,115,104,114,32,115,97,114,32,101,113,32,110,101,32,108,116,32,108,101,32,115,108,116,32,115,108,101,32,105,116,101]
def nmStep (k:Nat) (c:UInt8) (st:Nat × Nat × List Bs):Nat × Nat × List Bs :=
 if c=32 then (st.1+1,k+1,st.2.2) else (st.1,st.2.1,st.2.2.set st.1 ((allB.drop st.2.1).take (k+1 - st.2.1)))
def nmSt:Nat→Nat × Nat × List Bs
 | 0=>(1,0,List.replicate 22 [])
 | k+1=>nmStep k (allB.getD k 0) (nmSt k)
def nmOk (k:Nat):Bool:=decide ((nmSt k).2.1≤k) && decide ((nmSt k).2.2.length=22) && decide ((nmSt k).1≤21) && decide ((allB.getD k 0).toNat<128)
theorem nm_ok:(List.range 75).all nmOk=true:=by decide +kernel
def finN:List Bs:=[[],[]]++opL
theorem nm_end:(nmSt 75).2.2=finN:=by decide +kernel
def rowS (l:List Bs):Array Value:=(l.map fun s=>Value.string ⟨s.toArray⟩).toArray
theorem rowS_set (l:List Bs) (i:Nat) (s:Bs):rowS (l.set i s)=(rowS l).setIfInBounds i (.string ⟨s.toArray⟩):=by
 unfold rowS
 rw [List.setIfInBounds_toArray,List.map_set]
theorem run_next_heap {P:Program} {w:World} {r pos:Nat} {s:ByteArray} (hb:w.heap[r]?=some (.stringIter s pos)) (h:pos<s.size) (ha:(s[pos]'h).toNat<128) :
  ∃ w',(∀ ty,(Instr.next (.pointer (some ⟨r,0,none⟩)) true ty).run P w = .ok (.tuple #[.bool true,.int .i64 pos,.int .i32 (s[pos]'h).toNat]) w')∧w'.heap[r]?=some (.stringIter s (pos+1))∧w.grownBy w' (some r):=by
 refine ⟨{ w with heap:=w.heap.setIfInBounds r (.stringIter s (pos+1)) },fun ty=>?_,(MapKept.heap_set hb).1,⟨rfl,rfl,rfl,by simp,fun i _ hi=>(MapKept.heap_set hb).2 i (fun e=>hi (by rw [e]))⟩⟩
 simp only [Instr.next,getObj,setObj,Sem.run_bind,Sem.run,hb,Result.andThen,h,if_true,decode_ascii s pos h ha]
 simp [goInt,Sem.run,hb]
theorem run_next_heap_end {P:Program} {w:World} {r pos:Nat} {s:ByteArray} (ty:TypeId) (hb:w.heap[r]?=some (.stringIter s pos)) (h:¬ pos<s.size) :
  (Instr.next (.pointer (some ⟨r,0,none⟩)) true ty).run P w = .ok (.tuple #[.bool false]) w:=by
 simp [Instr.next,getObj,Sem.run,hb,h]
set_option maxRecDepth 100000 in
set_option maxHeartbeats 2000000 in
theorem names_any (w:World):Calls Tryz.prog 129 #[] w fun e w'=>e = .returned (.agg (rowS finN))∧Below w.heap.size w w':=by
 obtain ⟨W0,hW0⟩:∃ W,((w.alloc (.cells #[.string ⟨#[]⟩,.string ⟨#[]⟩,.string ⟨#[]⟩,.string ⟨#[]⟩,.string ⟨#[]⟩,.string ⟨#[]⟩,.string ⟨#[]⟩,.string ⟨#[]⟩,.string ⟨#[]⟩,.string ⟨#[]⟩,.string ⟨#[]⟩,.string ⟨#[]⟩,.string ⟨#[]⟩,.string ⟨#[]⟩,.string ⟨#[]⟩,.string ⟨#[]⟩,.string ⟨#[]⟩,.string ⟨#[]⟩,.string ⟨#[]⟩,.string ⟨#[]⟩,.string ⟨#[]⟩,.string ⟨#[]⟩] 166)).alloc (.cells #[.string ⟨#[]⟩,.string ⟨#[]⟩,.string ⟨#[]⟩,.string ⟨#[]⟩,.string ⟨#[]⟩,.string ⟨#[]⟩,.string ⟨#[]⟩,.string ⟨#[]⟩,.string ⟨#[]⟩,.string ⟨#[]⟩,.string ⟨#[]⟩,.string ⟨#[]⟩,.string ⟨#[]⟩,.string ⟨#[]⟩,.string ⟨#[]⟩,.string ⟨#[]⟩,.string ⟨#[]⟩,.string ⟨#[]⟩,.string ⟨#[]⟩,.string ⟨#[]⟩,.string ⟨#[]⟩,.string ⟨#[]⟩] 166)).iter ⟨#[32,110,111,116,32,110,101,103,32,97,100,100,32,115,117,98,32,109,117,108,32,100,105,118,32,114,101,109,32,97,110,100,32,111,114,32,120,111,114,32,115,104,108,32,115,104,114,32,115,97,114,32,101,113,32,110,101,32,108,116,32,108,101,32,115,108,116,32,115,108,101,32,105,116,101]⟩ 0=W:=⟨_,rfl⟩
 obtain ⟨sb,hsb⟩:∃ x:ByteArray,⟨#[32,110,111,116,32,110,101,103,32,97,100,100,32,115,117,98,32,109,117,108,32,100,105,118,32,114,101,109,32,97,110,100,32,111,114,32,120,111,114,32,115,104,108,32,115,104,114,32,115,97,114,32,101,113,32,110,101,32,108,116,32,108,101,32,115,108,116,32,115,108,101,32,105,116,101]⟩=x:=⟨_,rfl⟩
 have hb0:Below w.heap.size w W0:=by rw [← hW0];exact (((Below.refl _ _).alloc (Nat.le_refl _) _).alloc (by rw [World.size_alloc];omega) _).alloc (by rw [World.size_alloc,World.size_alloc];omega) _
 have hc0:W0.heap[w.heap.size]?=some (.cells #[.string ⟨#[]⟩,.string ⟨#[]⟩,.string ⟨#[]⟩,.string ⟨#[]⟩,.string ⟨#[]⟩,.string ⟨#[]⟩,.string ⟨#[]⟩,.string ⟨#[]⟩,.string ⟨#[]⟩,.string ⟨#[]⟩,.string ⟨#[]⟩,.string ⟨#[]⟩,.string ⟨#[]⟩,.string ⟨#[]⟩,.string ⟨#[]⟩,.string ⟨#[]⟩,.string ⟨#[]⟩,.string ⟨#[]⟩,.string ⟨#[]⟩,.string ⟨#[]⟩,.string ⟨#[]⟩,.string ⟨#[]⟩] 166 (0,0)):=by rw [← hW0];unfold World.iter;rw [heap_al,if_neg (by rw [World.size_alloc,World.size_alloc];omega),heap_al,if_neg (by rw [World.size_alloc];omega),heap_al,if_pos rfl]
 have hc1:W0.heap[w.heap.size+1]?=some (.cells (rowS (nmSt 0).2.2) 166 (0,0)):=by rw [← hW0];unfold World.iter;rw [heap_al,if_neg (by rw [World.size_alloc,World.size_alloc];omega),heap_al,if_pos (by rw [World.size_alloc])];rfl
 have hc2:W0.heap[w.heap.size+1+1]?=some (.stringIter sb 0):=by rw [← hW0,← hsb];unfold World.iter;rw [heap_al,if_pos (by rw [World.size_alloc,World.size_alloc])]
 have HB0:=hid hb0;have HC0:=hid hc0;have HC1:=hid hc1;have HC2:=hid hc2
 have HWW:=hid hW0
 have hsz:sb.size=75:=by rw [← hsb];rfl
 have hat:∀ k (h:k<sb.size),sb[k]=allB.getD k 0:=by
  intro k h
  subst hsb
  have h':k<allB.length:=h
  rw [List.getD_eq_getElem?_getD,List.getElem?_eq_getElem h']
  rfl
 have hex:∀ f k,sb.extract f k=⟨((allB.drop f).take (k - f)).toArray⟩:=by
  intro f k
  rw [ByteArray.ext_iff]
  apply Array.ext'
  rw [extract_toList,← hsb]
  rfl
 have HSB:=hid hsb;have HAT:=hid hat;have HSZ:=hid hsz;have HEX:=hid hex
 clear hb0 hc0 hc1 hc2 hW0 hsb hat hsz hex
 go_enter Tryz.func129,Tryz.ntmps129
 go_wp2_with fail
 rw [HWW.out]
 go_loopw [2,3] (fun nv fv wr=>∃ k:Nat,k≤75∧nv = .int .i64 ((nmSt k).1:Int)∧fv = .int .i64 ((nmSt k).2.1:Int)∧wr.heap[w.heap.size+1+1]?=some (.stringIter sb k)∧wr.heap[w.heap.size+1]?=some (.cells (rowS (nmSt k).2.2) 166 (0,0))∧wr.heap[w.heap.size]?=some (.cells #[.string ⟨#[]⟩,.string ⟨#[]⟩,.string ⟨#[]⟩,.string ⟨#[]⟩,.string ⟨#[]⟩,.string ⟨#[]⟩,.string ⟨#[]⟩,.string ⟨#[]⟩,.string ⟨#[]⟩,.string ⟨#[]⟩,.string ⟨#[]⟩,.string ⟨#[]⟩,.string ⟨#[]⟩,.string ⟨#[]⟩,.string ⟨#[]⟩,.string ⟨#[]⟩,.string ⟨#[]⟩,.string ⟨#[]⟩,.string ⟨#[]⟩,.string ⟨#[]⟩,.string ⟨#[]⟩,.string ⟨#[]⟩] 166 (0,0))∧Below w.heap.size w wr) (fun _ _ wr=>75 - (match wr.heap[w.heap.size+1+1]? with | some (.stringIter _ k)=>k | _=>0))
 case atStart=>exact ⟨0,by omega,rfl,rfl,HC2.out,HC1.out,HC0.out,HB0.out⟩
 case round =>
  obtain ⟨k,hk,rfl,rfl,h2,h1,h0,hb⟩:=hrel
  obtain ⟨wo,rfl⟩:∃ wo:World,wo=wr:=⟨_,rfl⟩
  have H2:=hid h2;have H1:=hid h1;have H0:=hid h0;have HB:=hid hb
  by_cases hlt:k<75
  ·have hok:=List.all_eq_true.1 nm_ok k (List.mem_range.2 hlt)
   unfold nmOk at hok
   simp only [Bool.and_eq_true,decide_eq_true_eq] at hok
   obtain ⟨⟨⟨o1,o2⟩,o3⟩,o4⟩:=hok
   have hks:k<sb.size:=by rw [HSZ.out];exact hlt
   have hc:=HAT.out k hks
   obtain ⟨W1,hnx,hit,hg⟩:=run_next_heap (P:=Tryz.prog) h2 hks (by rw [hc];exact o4)
   rw [hc] at hnx
   have hgs:∀ j,j ≠ w.heap.size+1+1→j<wo.heap.size→W1.heap[j]?=wo.heap[j]?:=fun j hj hlt=>hg.block j hlt (fun e=>by cases e;exact hj rfl)
   have l1:w.heap.size+1<wo.heap.size:=(Array.getElem?_eq_some_iff.1 h1).1
   have l0:w.heap.size<wo.heap.size:=by omega
   have HI:=hid hit;have HG1:=hid ((hgs _ (by omega) l1).trans h1);have HG0:=hid ((hgs _ (by omega) l0).trans h0)
   have HBW:=hid (hb.grown hg (by omega) (fun j e=>by cases e;omega))
   obtain ⟨N,hN⟩:∃ x,(nmSt k).1=x:=⟨_,rfl⟩
   obtain ⟨F,hF⟩:∃ x,(nmSt k).2.1=x:=⟨_,rfl⟩
   obtain ⟨L,hL⟩:∃ x,(nmSt k).2.2=x:=⟨_,rfl⟩
   have hst:nmSt (k+1)=nmStep k (allB.getD k 0) (N,F,L):=by rw [← hN,← hF,← hL];rfl
   rw [hN] at o3
   rw [hF] at o1
   rw [hL] at o2
   rw [hN,hF]
   obtain ⟨c,hcc⟩:∃ x,allB.getD k 0=x:=⟨_,rfl⟩
   rw [hcc] at hnx hst
   have HST:=hid hst;have HL:=hid hL;have HLT:=hid hlt;have HLN:=hid o2
   have y1:W1.cell? ⟨w.heap.size+1,N,none⟩=some (rowS L)[N]!:=by
    rw [cell_of_row W1 _ N _ _ _ (HL.out ▸ HG1.out),getElem!_pos _ _ (by unfold rowS;simp [o2];omega)]
    exact Array.getElem?_eq_getElem _
   have e1:W1.frozen? ⟨w.heap.size+1,N,none⟩=false:=frozen_of_row W1 _ N _ _ HG1.out
   have hN0:N<22:=by omega
   have hF0:F≤k+1:=by omega
   have hk0:k+1≤75:=hlt
   clear h2 h1 h0 hb hit hg hgs hst hL hN hF hlt o4 hc hcc o2
   by_cases hcb:c=32
   ·subst hcb
    go_wp2_with fail
    go_roundw
    case rel=>exact ⟨k+1,HLT.out,by rw [HST.out];rfl,by rw [HST.out];rfl,HI.out,by rw [HST.out,← HL.out];exact HG1.out,HG0.out,HBW.out⟩
    case measure=>(rw [H2.out,HI.out];have:=HLT.out;simp;omega)
   ·have g1:((c.toNat:Int) == 32)=false:=by
     rw [beq_eq_false_iff_ne]
     intro e
     exact hcb (UInt8.toNat_inj.1 (by simpa using Int.ofNat.inj e))
    have hst2:nmSt (k+1)=(N,F,L.set N ((allB.drop F).take (k+1 - F))):=by rw [HST.out];unfold nmStep;rw [if_neg hcb]
    have HS2:=hid hst2
    clear hst2
    go_wp2_with fail
    go_roundw
    case rel=>exact ⟨k+1,HLT.out,by rw [HS2.out],by rw [HS2.out],(Below.heap_setCell _ _ _ _ (by show w.heap.size+1+1 ≠ w.heap.size+1;omega)).trans HI.out,by rw [HS2.out,rowS_set,HSB.out,HEX.out,← HL.out];exact heap_set_cellS HG1.out _,(Below.heap_setCell _ _ _ _ (by show w.heap.size ≠ w.heap.size+1;omega)).trans HG0.out,HBW.out.setCell (by show w.heap.size≤w.heap.size+1;omega) _⟩
    case measure=>(rw [H2.out,Below.heap_setCell _ _ _ _ (show w.heap.size+1+1 ≠ w.heap.size+1 by omega),HI.out];have:=HLT.out;simp;omega)
  ·obtain rfl:k=75:=by omega
   have hnx:=fun ty=>run_next_heap_end (P:=Tryz.prog) ty h2 (by rw [HSZ.out];omega)
   rw [nm_end] at h1
   have H1:=hid h1
   clear h2 h1 h0 hb
   have HB:=hid HB.out
   go_wp2_with (refine wpList_load_row rfl 166 (.tmp 1) rfl (w.heap.size+1) rfl 166 (rowS finN) (0,0) (.array 22 9) H1.out (by as_aux_lemma=>kernel_rfl) rfl (by as_aux_lemma=>kernel_rfl) ?_;refine wpList_store_row rfl 166 (.tmp 0) (.tmp 23) rfl w.heap.size (rowS finN) rfl rfl 166 _ H0.out (by as_aux_lemma=>kernel_rfl) (by as_aux_lemma=>kernel_rfl) (by as_aux_lemma=>kernel_rfl) ?_;have hg8:=setRow_heap wo w.heap.size _ (rowS finN) _ _ H0.out;have hb8:=setRow_below wo w.heap.size w.heap.size (rowS finN) (Nat.le_refl _) HB.out;generalize World.setRow wo w.heap.size (rowS finN)=w8 at hg8 hb8 ⊢;have HG8:=hid hg8;have HB8:=hid hb8;clear hg8 hb8)
   refine bodyPost_ret (results_cell_row (g:=w.heap.size) (t:=166) (cs:=rowS finN) (fr:=(0,0)) (d := .array 22 9) rfl _ _ rfl HG8.out (by as_aux_lemma=>kernel_rfl) rfl (by as_aux_lemma=>kernel_rfl)) rfl ⟨rfl,HB8.out⟩
end Go.Proofs.YtoofbgoeipijcaaGreatDoor
