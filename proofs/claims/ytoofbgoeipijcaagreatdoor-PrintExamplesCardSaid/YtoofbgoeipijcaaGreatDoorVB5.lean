/-
 A part.
-/
import Derived.Test.YtoofbgoeipijcaaGreatDoorVB4
import Derived.Lib.Join
import Derived.Lib.ItoaNum
namespace Go.Proofs.YtoofbgoeipijcaaGreatDoor
set_option linter.all false
open Go.RowKit Go.Shelf
structure Ag where
 nm:Bs
 num:Nat
deriving DecidableEq
structure In where
 kind:Nat
 op:Nat
 dst:Bs
 nm:Bs
 args:List Ag
 pos:Int × Int
deriving DecidableEq
structure Ar where
 nm:Bs
 size:Int
deriving DecidableEq
structure Fu where
 nm:Bs
 params:List Bs
 code:List In
 pos:Int × Int
deriving DecidableEq
structure Pg where
 width:Int
 chans:List Bs
 arrays:List Ar
 funcs:List Fu
 main:List In
deriving DecidableEq
instance:Inhabited In:=⟨⟨0,0,[],[],[],(0,0)⟩⟩
instance:Inhabited Fu:=⟨⟨[],[],[],(0,0)⟩⟩
def opL:List Bs:=[[110,111,116],[110,101,103],[97,100,100],[115,117,98],[109,117,108],[100,105,118],[114,101,109],[97,110,100],[111,114],[120,111,114],
 [115,104,108],[115,104,114],[115,97,114],[101,113],[110,101],[108,116],[108,101],[115,108,116],[115,108,101],[105,116,101]]
def kwL:List Bs:=[[119,105,100,116,104],[99,104,97,110],[97,114,114,97,121],[102,117,110,99],[109,97,105,110],[101,110,100],[108,111,97,100],[115,116,111,114,101],
 [99,97,108,108],[105,110],[111,117,116],[114,101,108,101,97,115,101],[106,117,109,112],[105,102],[104,97,108,116],[114,101,116]]
def opB (s:Bs):Bool:=opL.contains s
def kwB (s:Bs):Bool:=kwL.contains s
def namedB (s:Bs):Bool:=nameB s && !opB s && !kwB s
def arityM (o:Nat):Nat:=if o<=1 then 0 else if o<=3 then 1 else if o=21 then 3 else 2
def fieldsL:List (Bool × Bool × Int):=[(true,false,1),(true,false,0),(true,true,1),(false,true,2),(true,true,-1),(true,true,0),(false,true,1),(true,true,1),(false,true,0),
 (false,true,1),(false,true,0),(false,false,0),(false,false,1)]
def argB (a:Ag):Bool:=decide (a.nm=[]) || (namedB a.nm && decide (a.num=0))
def wantM (x:In):Int:=if x.kind=1 then (arityM x.op:Int) else (fieldsL.getD x.kind (false,false,0)).2.2
def fieldB (f:Bool) (s:Bs):Bool:=if f then namedB s else decide (s=[])
def opOkB (x:In):Bool:=if x.kind=1 then decide (2<=x.op) && decide (x.op<=20) else decide (x.op=0)
def formB (x:In):Bool:=decide (x.kind<13) && opOkB x && fieldB (fieldsL.getD x.kind (false,false,0)).1 x.dst && fieldB (fieldsL.getD x.kind (false,false,0)).2.1 x.nm
 && (decide (wantM x<0) || decide ((x.args.length:Int)=wantM x)) && decide (x.args.length<=32) && x.args.all argB
abbrev Flt:=(Int × Int) × Int
def declM (pos:Int × Int):List Bs->List Bs->Option Flt
 | _,[]=>none
 | seen,s :: r=>if namedB s=false then some (pos,4) else if seen.contains s then some (pos,8) else declM pos (seen++[s]) r
def arrsM:List Bs->List Ar->Option Flt
 | _,[]=>none
 | seen,a :: r=>if namedB a.nm=false then some ((0,0),4) else if seen.contains a.nm then some ((0,0),8) else if a.size<1\/64<a.size then some ((0,0),3) else arrsM (seen++[a.nm]) r
def stepM (chans arrays:List Bs) (main:Bool) (labels sites:List Bs) (x:In):Except Flt (List Bs × List Bs) :=
 if (formB x && !(main && decide (x.kind=12)))=false then .error (x.pos,4)
 else if x.kind=5\/x.kind=6 then (if chans.contains x.nm then .ok (labels,sites) else .error (x.pos,6))
 else if x.kind=2\/x.kind=3 then (if arrays.contains x.nm then .ok (labels,sites) else .error (x.pos,6))
 else if x.kind=10 then (if labels.contains x.nm then .error (x.pos,8) else .ok (labels++[x.nm],sites))
 else if x.kind=7 then (if sites.contains x.nm then .ok (labels,sites) else if sites.length<32 then .ok (labels,sites++[x.nm]) else .error (x.pos,5))
 else .ok (labels,sites)
def bodyM (chans arrays:List Bs) (main:Bool):List In->List Bs->List Bs->Except Flt (List Bs × List Bs)
 | [],labels,sites => .ok (labels,sites)
 | x :: r,labels,sites=>match stepM chans arrays main labels sites x with
  | .error f => .error f
  | .ok (l,s)=>bodyM chans arrays main r l s
def instrsM (chans arrays:List Bs) (main:Bool) (pos:Int × Int) (code:List In) (sites:List Bs):Except Flt (List Bs × List Bs) :=
 if 1024<code.length then .error (pos,5) else bodyM chans arrays main code [] sites
def funcsM (chans arrays:List Bs):List Bs->List (List Bs)->List Bs->List Fu->Except Flt (List (List Bs) × List Bs)
 | _,labels,sites,[] => .ok (labels,sites)
 | seen,labels,sites,f :: r =>
  if namedB f.nm=false then .error (f.pos,4) else if seen.contains f.nm then .error (f.pos,8) else
  if 32<f.params.length then .error (f.pos,5) else
  match declM f.pos [] f.params with
  | some x => .error x
  | none=>match instrsM chans arrays false f.pos f.code sites with
   | .error x => .error x
   | .ok (l,s)=>funcsM chans arrays (seen++[f.nm]) (labels++[l]) s r
def paramsOf (p:Pg) (s:Bs):Option Nat:=(p.funcs.find? fun f=>decide (f.nm=s)).map fun f=>f.params.length
def targetM (p:Pg) (labels:List Bs) (x:In):Option Flt :=
 if x.kind=8\/x.kind=9 then (if labels.contains x.nm then none else some (x.pos,6))
 else if x.kind=4 then (match paramsOf p x.nm with
  | none=>some (x.pos,6)
  | some n=>if n=x.args.length then none else some (x.pos,4))
 else none
def targetsM (p:Pg) (labels:List Bs):List In->Option Flt
 | []=>none
 | x :: r=>match targetM p labels x with
  | some f=>some f
  | none=>targetsM p labels r
def callsM (code:List In):List Bs:=(code.filter fun x=>decide (x.kind=4)).map In.nm
def codeOf (p:Pg) (s:Bs):List In:=((p.funcs.find? fun f=>decide (f.nm=s)).map Fu.code).getD []
def pushM (name:Bs):List Bs->List Bs->List Bs->Bool × List Bs × List Bs
 | [],seen,todo=>(false,seen,todo)
 | g :: r,seen,todo=>if g=name then (true,seen,todo) else if seen.contains g then pushM name r seen todo else pushM name r (seen++[g]) (todo++[g])
def loopsM (p:Pg) (name:Bs):Nat->List Bs->List Bs->Bool
 | 0,_,_=>false
 | k+1,seen,todo=>if todo=[] then false else
  let r:=pushM name (callsM (codeOf p (todo.getLastD []))) seen todo.dropLast
  if r.1 then true else loopsM p name k r.2.1 r.2.2
def loopB (p:Pg) (name:Bs):Bool:=loopsM p name (2*p.funcs.length+3) [] [name]
def loopsAllM (p:Pg):List Fu->Option Flt
 | []=>none
 | f :: r=>if loopB p f.nm then some (f.pos,9) else loopsAllM p r
def laterM (p:Pg):List (List Bs)->List Fu->Option Flt
 | _,[]=>none
 | ls,f :: r=>match targetsM p (ls.headD []) f.code with
  | some x=>some x
  | none=>laterM p ls.tail r
def checkM (p:Pg):Flt :=
 if p.width<1\/64<p.width then ((0,0),3) else
 if 32<p.chans.length then ((0,0),5) else
 match declM (0,0) [] p.chans with
 | some f=>f
 | none =>
 if 32<p.arrays.length then ((0,0),5) else
 match arrsM [] p.arrays with
 | some f=>f
 | none =>
 if 32<p.funcs.length then ((0,0),5) else
 match funcsM p.chans (p.arrays.map Ar.nm) [] [] [] p.funcs with
 | .error f=>f
 | .ok (labels,sites) =>
 match instrsM p.chans (p.arrays.map Ar.nm) true (0,0) p.main sites with
 | .error f=>f
 | .ok (ml,_) =>
 match laterM p labels p.funcs with
 | some f=>f
 | none =>
 match targetsM p ml p.main with
 | some f=>f
 | none =>
 match loopsAllM p p.funcs with
 | some f=>f
 | none=>((0,0),0)
def argT (a:Ag):Bs:=if a.nm=[] then Lib.decDigits a.num else a.nm
def opT (o:Nat):Bs:=opL.getD (o - 2) []
def wLoad:Bs:=[108,111,97,100]
def wStore:Bs:=[115,116,111,114,101]
def wCall:Bs:=[99,97,108,108]
def wIn:Bs:=[105,110]
def wOut:Bs:=[111,117,116]
def wRelease:Bs:=[114,101,108,101,97,115,101]
def wJump:Bs:=[106,117,109,112]
def wIf:Bs:=[105,102]
def wHalt:Bs:=[104,97,108,116]
def wRet:Bs:=[114,101,116]
def wEnd:Bs:=[101,110,100]
def wMain:Bs:=[109,97,105,110]
def wFunc:Bs:=[102,117,110,99]
def wChan:Bs:=[99,104,97,110]
def wArray:Bs:=[97,114,114,97,121]
def wWidth:Bs:=[119,105,100,116,104]
def wordsM (x:In):List Bs :=
 match x.kind with
 | 0=>x.dst :: [61] :: x.args.map argT
 | 1=>x.dst :: [61] :: opT x.op :: x.args.map argT
 | 2=>x.dst :: [61] :: wLoad :: x.nm :: x.args.map argT
 | 3=>wStore :: x.nm :: x.args.map argT
 | 4=>x.dst :: [61] :: wCall :: x.nm :: x.args.map argT
 | 5=>[wIn,x.dst,x.nm]
 | 6=>wOut :: x.nm :: x.args.map argT
 | 7=>x.dst :: [61] :: wRelease :: x.nm :: x.args.map argT
 | 8=>wJump :: x.nm :: x.args.map argT
 | 9=>wIf :: (x.args.map argT++[x.nm])
 | 11=>[wHalt]
 | 12=>wRet :: x.args.map argT
 | _=>[]
def jn (l:List Bs):Bs:=Lib.join l [32]
def lineM (x:In):Bs:=if x.kind=10 then x.nm++[58] else jn (wordsM x)
def instrM (x:In):Bs × Int:=if formB x then (lineM x,0) else ([],4)
def bodyT (l:List In):List Bs:=l.map lineM++[wEnd]
def funcT (f:Fu):List Bs:=jn (wFunc :: f.nm :: f.params) :: bodyT f.code
def linesT (p:Pg):List Bs :=
 jn [wWidth,Lib.itoa p.width] :: (p.chans.map fun c=>jn [wChan,c])++(p.arrays.map fun a=>jn [wArray,a.nm,Lib.itoa a.size])++p.funcs.flatMap funcT++wMain :: bodyT p.main
def textT (l:List Bs):Bs:=l.flatMap fun s=>s++[10]
def printM (p:Pg):Bs × Int:=if (checkM p).2 ≠ 0 then ([],(checkM p).2) else if 65536<(textT (linesT p)).length then ([],5) else (textT (linesT p),0)
theorem jn_snoc (x:Bs) (l:List Bs) (y:Bs):jn (x :: (l++[y]))=jn (x :: l)++[32]++y:=by
 unfold jn
 rw [Lib.join_cons,Lib.join_cons]
 simp [Lib.joinTail,List.append_assoc]
def aloneF (x:In):Fu:=⟨if x.kind=4/\x.nm=[102] then [103] else [102],[],[{ x with pos:=(1,1) }],(0,0)⟩
def parP (k:Nat):Bs:=[112]++Lib.itoa (k:Int)
def aloneG (x:In):Fu:=⟨x.nm,(List.range x.args.length).map parP,[],(0,0)⟩
def aloneP (x:In):Pg:=⟨1,if x.kind=5\/x.kind=6 then [x.nm] else [],if x.kind=2\/x.kind=3 then [⟨x.nm,1⟩] else [],if x.kind=4 then [aloneF x,aloneG x] else [aloneF x],[]⟩
theorem par_named:∀ k,k<32->namedB (parP k)=true:=by decide +kernel
theorem par_inj:∀ j,j<32->∀ k,k<32->parP j=parP k->j=k:=by decide +kernel
theorem decl_par:∀ (m k:Nat),k+m<=32->declM (0,0) ((List.range k).map parP) ((List.range' k m).map parP)=none
 | 0,k,_=>rfl
 | m+1,k,h=>by
  rw [List.range'_succ,List.map_cons,declM,if_neg (by rw [par_named k (by omega)];decide),if_neg,show (List.range k).map parP++[parP k]=(List.range (k+1)).map parP by rw [List.range_succ,List.map_append];rfl]
  ·exact decl_par m (k+1) (by omega)
  ·rw [List.contains_iff_mem]
   intro hm
   obtain ⟨j,hj,e⟩:=List.mem_map.1 hm
   have hj':=List.mem_range.1 hj
   have:=par_inj j (by omega) k (by omega) e
   omega
theorem form_pos (x:In) (q:Int × Int):formB { x with pos:=q }=formB x:=rfl
theorem alone_bad (x:In) (h:formB x=false):(checkM (aloneP x)).2=4:=by
 have hstep:∀ (c a l s:List Bs),stepM c a false l s { x with pos:=(1,1) }=.error ((1,1),4):=fun c a l s=>by
  unfold stepM;rw [form_pos,h];rfl
 have hins:∀ (c a s:List Bs) (q:Int × Int),instrsM c a false q [{ x with pos:=(1,1) }] s=.error ((1,1),4):=fun c a s q=>by
  unfold instrsM;rw [if_neg (by simp)]
  unfold bodyM;rw [hstep]
 have hnf:namedB (aloneF x).nm=true:=by unfold aloneF;simp only;split <;> decide
 have hf:∀ (c a:List Bs) (r:List Fu),funcsM c a [] [] [] (aloneF x :: r)=.error ((1,1),4):=fun c a r=>by
  unfold funcsM
  rw [if_neg (by rw [hnf];decide),if_neg (by simp),if_neg (by simp [aloneF])]
  simp only [aloneF,declM,hins]
 unfold checkM
 rw [if_neg (by simp [aloneP]),if_neg (by simp [aloneP];split <;> simp)]
 by_cases hc:∃ f,declM (0,0) [] (aloneP x).chans=some f
 ·obtain ⟨f,e⟩:=hc
  rw [e]
  simp only [aloneP] at e
  split at e
  ·simp only [declM] at e
   split at e
   ·cases e;rfl
   ·simp at e
  ·simp [declM] at e
 ·have e:declM (0,0) [] (aloneP x).chans=none:=by
   cases e:declM (0,0) [] (aloneP x).chans with
   | none=>rfl
   | some f=>exact absurd ⟨f,e⟩ hc
  rw [e]
  simp only
  rw [if_neg (by simp [aloneP];split <;> simp)]
  by_cases hc:∃ f,arrsM [] (aloneP x).arrays=some f
  ·obtain ⟨f,e⟩:=hc
   rw [e]
   simp only [aloneP] at e
   split at e
   ·simp only [arrsM] at e
    split at e
    ·cases e;rfl
    ·simp at e
   ·simp [arrsM] at e
  ·have e:arrsM [] (aloneP x).arrays=none:=by
    cases e:arrsM [] (aloneP x).arrays with
    | none=>rfl
    | some f=>exact absurd ⟨f,e⟩ hc
   rw [e]
   simp only
   rw [if_neg (by simp [aloneP];split <;> simp)]
   by_cases h4:x.kind=4
   ·rw [show (aloneP x).funcs=[aloneF x,aloneG x] by simp [aloneP,h4],hf]
   ·rw [show (aloneP x).funcs=[aloneF x] by simp [aloneP,h4],hf]
theorem find_alone (x:In) (h4:x.kind=4):paramsOf (aloneP x) x.nm=some x.args.length:=by
 have hne:¬ (aloneF x).nm=x.nm:=by
  unfold aloneF;simp only [h4,true_and]
  split
  ·rename_i e;rw [e];decide
  ·rename_i e;exact fun h=>e h.symm
 have hg:(aloneG x).nm=x.nm:=rfl
 unfold paramsOf
 rw [show (aloneP x).funcs=[aloneF x,aloneG x] by simp [aloneP,h4]]
 simp [hne,hg]
 simp [aloneG]
theorem targets_alone (x:In) (l:List Bs):∀ f,targetsM (aloneP x) l [{ x with pos:=(1,1) }]=some f->f.2=6:=by
 intro f h
 unfold targetsM targetsM targetM at h
 by_cases h89:x.kind=8\/x.kind=9
 ·rw [if_pos h89] at h
  by_cases hl:l.contains x.nm=true
  ·rw [if_pos hl] at h;cases h
  ·rw [if_neg hl] at h;cases h;rfl
 ·rw [if_neg h89] at h
  by_cases h4:x.kind=4
  ·rw [if_pos h4] at h
   simp only [find_alone x h4] at h
   simp at h
  ·rw [if_neg h4] at h;cases h
theorem loops_nine (p:Pg):∀ (l:List Fu) f,loopsAllM p l=some f->f.2=9
 | [],f,h=>by cases h
 | g :: r,f,h=>by
  unfold loopsAllM at h
  split at h
  ·cases h;rfl
  ·exact loops_nine p r f h
theorem alone_good (x:In) (h:formB x=true):(checkM (aloneP x)).2 ≠ 4/\(checkM (aloneP x)).2 ≠ 5:=by
 have hfm:=h
 unfold formB at h
 simp only [Bool.and_eq_true,decide_eq_true_eq] at h
 obtain ⟨⟨⟨⟨⟨⟨hk,hop⟩,hd⟩,hn⟩,hw⟩,hl⟩,hag⟩:=h
 have hnf:namedB (aloneF x).nm=true:=by unfold aloneF;simp only;split <;> decide
 have hnm:∀ k,x.kind=k->(fieldsL.getD k (false,false,0)).2.1=true->namedB x.nm=true:=fun k e e'=>by
  rw [e,e'] at hn;exact hn
 have hch:declM (0,0) [] (aloneP x).chans=none:=by
  simp only [aloneP]
  split
  ·rename_i e
   have:namedB x.nm=true:=by rcases e with e | e;exact hnm 5 e rfl;exact hnm 6 e rfl
   simp [declM,this]
  ·rfl
 have har:arrsM [] (aloneP x).arrays=none:=by
  simp only [aloneP]
  split
  ·rename_i e
   have:namedB x.nm=true:=by rcases e with e | e;exact hnm 2 e rfl;exact hnm 3 e rfl
   simp [arrsM,this]
  ·rfl
 have hstep:∃ l s,stepM (aloneP x).chans ((aloneP x).arrays.map Ar.nm) false [] [] { x with pos:=(1,1) }=.ok (l,s):=by
  unfold stepM
  rw [form_pos,hfm]
  rw [if_neg (by simp)]
  by_cases c1:x.kind=5\/x.kind=6
  ·rw [if_pos c1,if_pos (by simp [aloneP,c1])];exact ⟨_,_,rfl⟩
  ·rw [if_neg c1]
   by_cases c2:x.kind=2\/x.kind=3
   ·rw [if_pos c2,if_pos (by simp [aloneP,c2])];exact ⟨_,_,rfl⟩
   ·rw [if_neg c2]
    by_cases c3:x.kind=10
    ·rw [if_pos c3,if_neg (by simp)];exact ⟨_,_,rfl⟩
    ·rw [if_neg c3]
     by_cases c4:x.kind=7
     ·rw [if_pos c4,if_neg (by simp),if_pos (by simp)];exact ⟨_,_,rfl⟩
     ·rw [if_neg c4];exact ⟨_,_,rfl⟩
 obtain ⟨l0,s0,hstep⟩:=hstep
 have hins:instrsM (aloneP x).chans ((aloneP x).arrays.map Ar.nm) false (0,0) [{ x with pos:=(1,1) }] []=.ok (l0,s0):=by
  unfold instrsM;rw [if_neg (by simp)]
  unfold bodyM;rw [hstep]
  rfl
 have hfun:∃ ls s,funcsM (aloneP x).chans ((aloneP x).arrays.map Ar.nm) [] [] [] (aloneP x).funcs=.ok (ls,s):=by
  by_cases h4:x.kind=4
  ·rw [show (aloneP x).funcs=[aloneF x,aloneG x] by simp [aloneP,h4]]
   unfold funcsM
   rw [if_neg (by rw [hnf];decide),if_neg (by simp),if_neg (by simp [aloneF])]
   have e1:declM (aloneF x).pos [] (aloneF x).params=none:=rfl
   have e2:instrsM (aloneP x).chans ((aloneP x).arrays.map Ar.nm) false (aloneF x).pos (aloneF x).code []=.ok (l0,s0):=hins
   rw [e1];simp only;rw [e2];simp only
   unfold funcsM
   have n1:namedB x.nm=true:=hnm 4 h4 rfl
   have hne:¬ (aloneF x).nm=x.nm:=by
    unfold aloneF;simp only [h4,true_and]
    split
    ·rename_i e;rw [e];decide
    ·rename_i e;exact fun h=>e h.symm
   rw [if_neg (by show ¬ namedB x.nm=false;rw [n1];decide),if_neg (by simp only [List.nil_append];show ¬ [(aloneF x).nm].contains x.nm=true;simp;exact fun e=>hne e.symm),if_neg (by simp [aloneG];exact hl)]
   have e3:declM (aloneG x).pos [] (aloneG x).params=none:=by
    have:=decl_par x.args.length 0 (by omega)
    rw [<- List.range_eq_range'] at this
    exact this
   rw [e3];simp only
   exact ⟨_,_,rfl⟩
  ·rw [show (aloneP x).funcs=[aloneF x] by simp [aloneP,h4]]
   unfold funcsM
   rw [if_neg (by rw [hnf];decide),if_neg (by simp),if_neg (by simp [aloneF])]
   have e1:declM (aloneF x).pos [] (aloneF x).params=none:=rfl
   have e2:instrsM (aloneP x).chans ((aloneP x).arrays.map Ar.nm) false (aloneF x).pos (aloneF x).code []=.ok (l0,s0):=hins
   rw [e1];simp only;rw [e2]
   exact ⟨_,_,rfl⟩
 obtain ⟨ls,s1,hfun⟩:=hfun
 have hmain:instrsM (aloneP x).chans ((aloneP x).arrays.map Ar.nm) true (0,0) (aloneP x).main s1=.ok ([],s1):=rfl
 have hlater:∀ f,laterM (aloneP x) ls (aloneP x).funcs=some f->f.2=6:=by
  intro f hf
  have hf1:∀ f,targetsM (aloneP x) (ls.headD []) (aloneF x).code=some f->f.2=6:=targets_alone x _
  by_cases h4:x.kind=4
  ·rw [show (aloneP x).funcs=[aloneF x,aloneG x] by simp [aloneP,h4]] at hf
   unfold laterM at hf
   split at hf
   ·rename_i e;cases hf;exact hf1 _ e
   ·simp [laterM,aloneG,targetsM] at hf
  ·rw [show (aloneP x).funcs=[aloneF x] by simp [aloneP,h4]] at hf
   unfold laterM at hf
   split at hf
   ·rename_i e;cases hf;exact hf1 _ e
   ·simp [laterM] at hf
 have hres:(checkM (aloneP x)).2=6\/(checkM (aloneP x)).2=9\/(checkM (aloneP x)).2=0:=by
  unfold checkM
  rw [if_neg (by simp [aloneP]),if_neg (by simp [aloneP];split <;> simp),hch]
  simp only
  rw [if_neg (by simp [aloneP];split <;> simp),har]
  simp only
  rw [if_neg (by simp [aloneP];split <;> simp),hfun]
  simp only
  rw [hmain]
  simp only
  cases e:laterM (aloneP x) ls (aloneP x).funcs with
  | some f=>exact .inl (hlater f e)
  | none =>
   simp only [aloneP,targetsM]
   split
   ·rename_i f e;exact .inr (.inl (loops_nine _ _ _ e))
   ·exact .inr (.inr rfl)
 omega
def bigN:Bs:=[97,95,108,111,110,103,95,110,97,109,101,95,111,102,95,97,95,118,97,114,105,97,98,108,101]
def bigI (i:Nat):In:=⟨1,4,bigN,[],[⟨[],18446744073709551615⟩,⟨[],9223372036854775808+i⟩],(0,0)⟩
def bigP (n:Nat):Pg:=⟨64,[],[],[],(List.range n).map bigI⟩
theorem big_form (i:Nat):formB (bigI i)=true:=by rfl
theorem big_body:∀ (l:List Nat) (a s:List Bs),bodyM [] [] true (l.map bigI) a s=.ok (a,s)
 | [],a,s=>rfl
 | i :: r,a,s=>by
  rw [List.map_cons]
  unfold bodyM
  rw [show stepM [] [] true a s (bigI i)=.ok (a,s) by unfold stepM;rw [big_form];rfl]
  exact big_body r a s
theorem big_targets (p:Pg) (m:List Bs):∀ (l:List Nat),targetsM p m (l.map bigI)=none
 | []=>rfl
 | i :: r=>by
  rw [List.map_cons]
  unfold targetsM
  rw [show targetM p m (bigI i)=none by rfl]
  exact big_targets p m r
theorem big_check (n:Nat) (h:n<=1024):checkM (bigP n)=((0,0),0):=by
 unfold checkM
 rw [if_neg (by show ¬ ((64:Int)<1\/(64:Int)<64);decide),if_neg (by show ¬ (32<0);decide)]
 rw [show declM (0,0) [] (bigP n).chans=none by rfl]
 dsimp only
 rw [if_neg (by show ¬ (32<0);decide)]
 rw [show arrsM [] (bigP n).arrays=none by rfl]
 dsimp only
 rw [if_neg (by show ¬ (32<0);decide)]
 rw [show funcsM (bigP n).chans ((bigP n).arrays.map Ar.nm) [] [] [] (bigP n).funcs=.ok ([],[]) by rfl]
 dsimp only
 rw [show instrsM (bigP n).chans ((bigP n).arrays.map Ar.nm) true (0,0) (bigP n).main []=.ok ([],[]) by
  unfold instrsM
  rw [if_neg (by show ¬ (1024<((List.range n).map bigI).length);rw [List.length_map,List.length_range];omega)]
  exact big_body _ _ _]
 dsimp only
 rw [show laterM (bigP n) [] (bigP n).funcs=none by rfl]
 dsimp only
 rw [show targetsM (bigP n) [] (bigP n).main=none from big_targets _ _ _]
 rfl
theorem digs_least:∀ (k n:Nat),10 ^ k<=n->k+1<=(Lib.decDigits n).length
 | 0,n,_=>by rw [Lib.decDigits_length];unfold Lib.nDigits;split <;> omega
 | k+1,n,h=>by
  have h10:¬ n<10:=by rw [Nat.pow_succ] at h;have:=Nat.one_le_two_pow (n:=k);have:1<=10 ^ k:=Nat.one_le_pow _ _ (by decide);omega
  have ih:=digs_least k (n / 10) (by rw [Nat.pow_succ] at h;omega)
  rw [Lib.decDigits,dif_neg h10,List.length_append]
  simp only [List.length_cons,List.length_nil]
  omega
theorem big_words (a b:Nat):lineM ⟨1,4,bigN,[],[⟨[],a⟩,⟨[],b⟩],(0,0)⟩=jn [bigN,[61],opT 4,Lib.decDigits a,Lib.decDigits b]:=rfl
theorem big_line (i:Nat):71<=(lineM (bigI i)).length:=by
 have h1:=digs_least 18 (9223372036854775808+i) (by have h0:(10:Nat) ^ 18=1000000000000000000:=(by decide);omega)
 have h2:=digs_least 19 18446744073709551615 (by decide)
 unfold bigI
 rw [big_words]
 obtain ⟨A,hA⟩:∃ A,Lib.decDigits 18446744073709551615=A:=⟨_,rfl⟩
 obtain ⟨B,hB⟩:∃ B,Lib.decDigits (9223372036854775808+i)=B:=⟨_,rfl⟩
 rw [hA] at h2 ⊢
 rw [hB] at h1 ⊢
 unfold jn
 rw [Lib.join_cons]
 simp only [Lib.joinTail,List.map_cons,List.map_nil,List.flatten_cons,List.flatten_nil,List.length_append,List.length_cons,List.length_nil]
 have h3:bigN.length=25:=by decide
 have h4:(opT 4).length=3:=by decide
 omega
theorem text_app (a b:List Bs):textT (a++b)=textT a++textT b:=by unfold textT;rw [List.flatMap_append]
theorem big_len:∀ (l:List Nat),72*l.length<=(textT ((l.map bigI).map lineM)).length
 | []=>Nat.zero_le _
 | i :: r=>by
  have h1:=big_line i
  have h2:=big_len r
  rw [List.map_cons,List.map_cons,show ∀ (x:Bs) (q:List Bs),textT (x :: q)=x++[10]++textT q from fun x q=>by simp [textT]]
  simp only [List.length_append,List.length_cons,List.length_nil]
  omega
theorem big_print:printM (bigP 1024)=([],5):=by
 unfold printM
 rw [big_check 1024 lrf,if_neg (by decide),if_pos]
 have h:=big_len (List.range 1024)
 rw [List.length_range] at h
 have e:linesT (bigP 1024)=[jn [wWidth,Lib.itoa 64],wMain]++(((List.range 1024).map bigI).map lineM++[wEnd]):=by
  unfold linesT bodyT bigP
  simp
 rw [e,text_app,text_app,List.length_append,List.length_append]
 omega
def oneL:In:=⟨10,0,[],[76],[],(10,1)⟩
def oneX (x:In):In:={ x with pos:=(9,2) }
def oneP (x:In) (main:Bool):Pg:=⟨4,[[99]],[⟨[97],3⟩],[⟨[102],[[112]],[],(3,1)⟩,⟨[103],[],if main then [] else [oneL,oneX x],(5,1)⟩],if main then [oneX x,oneL] else []⟩
def namesE:List Bs:=[[],[120],[101,110,100],[49]]
def numsE:List Nat:=[0,1,9,10,99,100,4294967295,9223372036854775808,18446744073709551615]
def exArgs (i k:Nat):List Ag:=(List.range k).map fun j=>⟨[],numsE.getD ((i+j) % 9) 0⟩
theorem exArgs_len (i k:Nat):(exArgs i k).length=k:=by unfold exArgs;rw [List.length_map,List.length_range]
theorem exArgs_succ (i k:Nat):exArgs i (k+1)=exArgs i k++[⟨[],numsE.getD ((i+k) % 9) 0⟩]:=by unfold exArgs;rw [List.range_succ,List.map_append];rfl
theorem names_le (q:Nat):(namesE.getD q []).length<=3:=by
 match q with
 | 0=>decide
 | 1=>decide
 | 2=>decide
 | 3=>decide
 | n+4=>exact Nat.zero_le _
theorem nums_lt (q:Nat):numsE.getD q 0<18446744073709551616:=by
 match q with
 | 0=>decide
 | 1=>decide
 | 2=>decide
 | 3=>decide
 | 4=>decide
 | 5=>decide
 | 6=>decide
 | 7=>decide
 | 8=>decide
 | n+9=>show 0<_;decide
theorem exArgs_ok (i k:Nat):∀ a ∈ exArgs i k,a.nm=[]/\a.num<18446744073709551616:=by
 intro a ha
 unfold exArgs at ha
 obtain ⟨j,-,rfl⟩:=List.mem_map.1 ha
 exact ⟨rfl,nums_lt _⟩
end Go.Proofs.YtoofbgoeipijcaaGreatDoor
