/-
 A part.
-/
import Derived.Test.YtoofbgoeipijcaaGreatDoorVSPnM
import Derived.Lib.IndexMore
import Derived.Lib.IndexBytes
import Derived.Lib.IndexAny
namespace Go.Proofs.YtoofbgoeipijcaaGreatDoor
set_option linter.all false
open Go.RowKit Go.Shelf
def simE {α β:Type} (R:α->β->Prop) (x:PE α) (y:PE β):Prop:=match x,y with | .error f,.error g=>f.2=g.2 | .ok a,.ok b=>R a b | _,_=>False
theorem simE.bind {α β γ δ:Type} {R:α->β->Prop} {R':γ->δ->Prop} {x:PE α} {y:PE β} {g:α->PE γ} {g':β->PE δ} (h:simE R x y) (hg:∀ a b,R a b->simE R' (g a) (g' b)):simE R' (x >>= g) (y >>= g'):=by
 cases x <;> cases y
 ·exact h
 ·exact h.elim
 ·exact h.elim
 ·exact hg _ _ h
theorem simE.need {b b':Bool} {p p':Int × Int} {e e':Int} (h:b=b') (he:e=e'):simE (fun _ _=>True) (needM b p e) (needM b' p' e'):=by
 subst h he;cases b
 ·exact (rfl:e=e)
 ·exact trivial
theorem simE.ok {α β:Type} {R:α->β->Prop} {a:α} {b:β} (h:R a b):simE R (pure a:PE α) (pure b:PE β):=h
abbrev tx (ws:List Wd):List Bs:=ws.map (·.1)
section
variable {f g:Int × Int} {ws ws':List Wd}
end
structure SS (S S':PS):Prop where
 p:bareP S.p=bareP S'.p
 lb:S.labels=S'.labels
 st:S.sites=S'.sites
 nn:S.inn=S'.inn
 sp:S.step=S'.step
theorem SS.ch {S S':PS} (h:SS S S'):S.p.chans=S'.p.chans:=bP_chans h.p
theorem SS.ar {S S':PS} (h:SS S S'):S.p.arrays=S'.p.arrays:=bP_arrays h.p
theorem SS.an {S S':PS} (h:SS S S'):anamesP S.p=anamesP S'.p:=by unfold anamesP;rw [h.ar]
theorem SS.fu {S S':PS} (h:SS S S'):S.p.funcs.map bareF=S'.p.funcs.map bareF:=bP_funcs h.p
theorem SS.mn {S S':PS} (h:SS S S'):S.p.main.map bareI=S'.p.main.map bareI:=bP_main h.p
theorem SS.fl {S S':PS} (h:SS S S'):S.p.funcs.length=S'.p.funcs.length:=by have:=congrArg List.length h.fu;simpa using this
theorem SS.fn {S S':PS} (h:SS S S'):S.p.funcs.map Fu.nm=S'.p.funcs.map Fu.nm:=by
 have:=congrArg (List.map Fu.nm) h.fu
 rw [List.map_map,List.map_map] at this
 exact this
section
variable {f g:Int × Int} {ws ws':List Wd} {S S':PS}
theorem SS.code (hS:SS S S'):(codeP S).map bareI=(codeP S').map bareI:=by
 unfold codeP
 rw [hS.nn]
 split
 ·have:=congrArg List.getLast? hS.fu
  rw [List.getLast?_map,List.getLast?_map] at this
  cases h1:S.p.funcs.getLast? with
  | none=>rw [h1] at this;cases h2:S'.p.funcs.getLast? with
   | none=>rfl
   | some b=>rw [h2] at this;cases this
  | some a=>rw [h1] at this;cases h2:S'.p.funcs.getLast? with
   | none=>rw [h2] at this;cases this
   | some b=>rw [h2] at this;exact bF_code (by simpa using this)
 ·exact hS.mn
theorem SS.put (hS:SS S S') {l l':List In} (hl:l.map bareI=l'.map bareI):bareP (putCode S l)=bareP (putCode S' l'):=by
 unfold putCode
 rw [hS.nn]
 split
 ·have h0:=congrArg List.getLast? hS.fu
  rw [List.getLast?_map,List.getLast?_map] at h0
  have hd:=congrArg List.dropLast hS.fu
  rw [<- List.map_dropLast,<- List.map_dropLast] at hd
  unfold bareP
  dsimp only
  rw [List.map_append,List.map_append,hd,bP_width hS.p,hS.ch,hS.ar,hS.mn]
  cases h1:S.p.funcs.getLast? with
  | none=>rw [h1] at h0;cases h2:S'.p.funcs.getLast? with
   | none=>rfl
   | some b=>rw [h2] at h0;cases h0
  | some a=>rw [h1] at h0;cases h2:S'.p.funcs.getLast? with
   | none=>rw [h2] at h0;cases h0
   | some b =>
    rw [h2] at h0
    have hb:bareF a=bareF b:=by simpa using h0
    have:bareF { a with code:=l }=bareF { b with code:=l' }:=by
     unfold bareF;dsimp only;rw [hl,bF_nm hb,bF_params hb]
    simp [this]
 ·unfold bareP
  dsimp only
  rw [hl,bP_width hS.p,hS.ch,hS.ar,hS.fu]
end
def mb (l:List Bs):Nat:=(l.map fun w=>w.length+1).sum
theorem mb_nil:mb []=0:=rfl
theorem mb_cons (w:Bs) (l:List Bs):mb (w :: l)=w.length+1+mb l:=by simp [mb]
theorem mb_app (a b:List Bs):mb (a++b)=mb a+mb b:=by simp [mb]
abbrev mw (ws:List Wd):Nat:=mb (tx ws)
theorem mw_cons (w:Wd) (l:List Wd):mw (w :: l)=w.1.length+1+mw l:=mb_cons _ _
theorem jn_mb:∀ l:List Bs,l ≠ []->(jn l).length+1=mb l
 | [],h=>absurd rfl h
 | [w],_=>by rw [jn_one,mb_cons,mb_nil]
 | w :: v :: r,_=>by
  rw [jn_cons2,mb_cons,List.length_append,List.length_cons]
  have:=jn_mb (v :: r) (by simp)
  omega
theorem text_mb:∀ L:List (List Bs),(∀ l ∈ L,l ≠ [])->(textT (L.map jn)).length=(L.map mb).sum
 | [],_=>rfl
 | l :: r,h=>by
  have h1:=jn_mb l (h l (List.mem_cons_self ..))
  have h2:=text_mb r fun k hk=>h k (List.mem_cons_of_mem _ hk)
  unfold textT at h2 ⊢
  rw [List.map_cons,List.flatMap_cons,List.length_append,List.length_append,h2,List.map_cons,List.sum_cons]
  simp only [List.length_cons,List.length_nil]
  omega
theorem dig_le:∀ (k u:Nat),1<=k->u<10 ^ k->Lib.nDigits u<=k
 | 0,u,h,_=>absurd h (by omega)
 | k+1,u,_,hu=>by
  by_cases h:u<10
  ·rw [Lib.nDigits_small h];omega
  ·rw [Lib.nDigits_big h]
   have hk:1<=k:=by
    cases k with
    | zero=>simp at hu;omega
    | succ k=>omega
   have:=dig_le k (u / 10) hk (by rw [Nat.pow_succ] at hu;omega)
   omega
theorem numGo_lt:∀ (s:Bs) (n k:Nat),(numGo s n).2=0->s.all digB=true->n<10 ^ k->(numGo s n).1<10 ^ (k+s.length)
 | [],n,k,_,_,hn=>hn
 | c :: r,n,k,h,ha,hn=>by
  unfold numGo at h ⊢
  simp only [List.all_cons,Bool.and_eq_true] at ha
  have hc:c.toNat<=57:=by
   have:=ha.1
   unfold digB at this
   simp at this
   omega
  split at h
  ·exact absurd h (by decide)
  ·rename_i hlt
   rw [if_neg hlt]
   have:=numGo_lt r (10*n+(c.toNat - 48)) (k+1) h ha.2 (by rw [Nat.pow_succ];omega)
   rw [show k+(c :: r).length=k+1+r.length by rw [List.length_cons];omega]
   exact this
theorem numR_dig {w:Bs} (h:(numR w).2=0):(Lib.decDigits (numR w).1).length<=w.length:=by
 rw [Lib.decDigits_length]
 unfold numR at h ⊢
 split at h
 ·exact absurd h (by decide)
 ·rename_i hl
  rw [if_neg hl]
  split at h
  ·rename_i ha
   rw [if_pos ha]
   have:=numGo_lt w 0 0 h ha (by decide)
   exact dig_le _ _ (by omega) (by simpa using this)
  ·exact absurd h (by decide)
theorem named_neA {s:Bs} (h:namedB s=true):s ≠ []:=by rintro rfl;revert h;decide
section
variable {f:Int × Int} {ws:List Wd}
theorem next_mb {p:Wd × List Wd} (h:nextP f ws=.ok p):mw ws=p.1.1.length+1+mw p.2:=by
 cases ws with
 | nil=>cases h
 | cons a r=>injection h with h;subst h;exact mw_cons _ _
theorem name_mb {p:Wd × List Wd} (h:nameP f ws=.ok p):mw ws=p.1.1.length+1+mw p.2:=by
 unfold nameP at h
 obtain ⟨a,h1,h⟩:=bindE h;obtain ⟨u,h2,h⟩:=bindE h
 rw [<- pureE h];exact next_mb h1
theorem fresh_mb {had:List Bs} {p:Bs × List Wd} (h:freshP f had ws=.ok p):mw ws=p.1.length+1+mw p.2:=by
 unfold freshP at h
 obtain ⟨a,h1,h⟩:=bindE h;obtain ⟨u,h2,h⟩:=bindE h
 rw [<- pureE h];exact name_mb h1
theorem known_mb {had:List Bs} {p:Bs × List Wd} (h:knownP f had ws=.ok p):mw ws=p.1.length+1+mw p.2:=by
 unfold knownP at h
 obtain ⟨a,h1,h⟩:=bindE h;obtain ⟨u,h2,h⟩:=bindE h
 rw [<- pureE h];exact name_mb h1
theorem site_mb {sites:List Bs} {p:Bs × List Bs × List Wd} (h:siteP f sites ws=.ok p):mw ws=p.1.length+1+mw p.2.2:=by
 unfold siteP at h
 obtain ⟨a,h1,h⟩:=bindE h;obtain ⟨u,h2,h⟩:=bindE h;obtain ⟨u',h3,h⟩:=bindE h
 rw [<- pureE h];exact next_mb h1
theorem number_mb {most:Nat} {p:Nat × List Wd} (h:numberP f most ws=.ok p):(Lib.decDigits p.1).length+1+mw p.2<=mw ws:=by
 unfold numberP at h
 obtain ⟨a,h1,h⟩:=bindE h;obtain ⟨u,h2,h⟩:=bindE h;obtain ⟨u',h3,h⟩:=bindE h
 rw [<- pureE h,next_mb h1]
 have:=numR_dig (of_decide_eq_true (needM_ok h2))
 show (Lib.decDigits (numR a.1.1).1).length+1+mw a.2<=a.1.1.length+1+mw a.2
 omega
theorem operand_mb {p:Ag × List Wd} (h:operandP f ws=.ok p):(argT p.1).length+1+mw p.2<=mw ws:=by
 unfold operandP at h
 obtain ⟨⟨w,r⟩,h1,h⟩:=bindE h
 dsimp only at h
 have hn:=next_mb h1
 dsimp only at hn
 split at h
 ·obtain ⟨u,h2,h⟩:=bindE h
  rw [<- pureE h,hn]
  have:=numR_dig (of_decide_eq_true (needM_ok h2))
  show (Lib.decDigits (numR w.1).1).length+1+mw r<=w.1.length+1+mw r
  omega
 ·obtain ⟨u,h2,h⟩:=bindE h
  rw [<- pureE h,hn]
  show (argT ⟨w.1,0⟩).length+1+_<=_
  unfold argT
  rw [if_neg (named_neA (needM_ok h2))]
  exact Nat.le_refl _
theorem operands_mb:∀ (n:Nat) {ws:List Wd} {p:List Ag × List Wd},operandsP f n ws=.ok p->mb (p.1.map argT)+mw p.2<=mw ws
 | 0,ws,p,h=>by unfold operandsP at h;rw [<- pureE h];exact Nat.le_of_eq (Nat.zero_add _)
 | n+1,ws,p,h=>by
  unfold operandsP at h
  obtain ⟨⟨a,r⟩,h1,h⟩:=bindE h
  obtain ⟨⟨l,q⟩,h2,h⟩:=bindE h
  rw [<- pureE h]
  have e1:=operand_mb h1
  have e2:=operands_mb n h2
  dsimp only at e1 e2 ⊢
  rw [List.map_cons,mb_cons]
  omega
theorem rest_mb:∀ (ws:List Wd) (k:Nat) {l:List Ag},restP f k ws=.ok l->mb (l.map argT)<=mw ws
 | [],k,l,h=>by unfold restP at h;rw [<- pureE h];exact Nat.le_refl _
 | w :: r,k,l,h=>by
  unfold restP at h
  obtain ⟨u,h1,h⟩:=bindE h
  obtain ⟨⟨a,q⟩,h2,h⟩:=bindE h
  obtain ⟨l',h3,h⟩:=bindE h
  rw [<- pureE h]
  have e1:=operand_mb h2
  have e2:=rest_mb r (k+1) h3
  rw [mw_cons] at e1 ⊢
  rw [List.map_cons,mb_cons]
  have e3:mw []=0:=rfl
  dsimp only at e1 e2 ⊢
  omega
theorem params_mb:∀ (ws:List Wd) (had:List Bs) {l:List Bs},paramsP f had ws=.ok l->mb l<=mb had+mw ws
 | [],had,l,h=>by unfold paramsP at h;rw [<- pureE h];exact Nat.le_add_right _ _
 | w :: r,had,l,h=>by
  unfold paramsP at h
  obtain ⟨u,h1,h⟩:=bindE h
  obtain ⟨⟨a,q⟩,h2,h⟩:=bindE h
  have e1:=fresh_mb h2
  have e2:=params_mb r _ h
  rw [mb_app,mb_cons,mb_nil] at e2
  rw [mw_cons] at e1 ⊢
  have e3:mw []=0:=rfl
  dsimp only at e1 e2 ⊢
  omega
theorem instr_mb {S:PS} {c:Wd} {p:In × List Bs × List Bs × List Wd} (h:instrP S f c ws=.ok p):mb (wlI p.1)+mw p.2.2.2<=mw (c :: ws):=by
 rw [mw_cons]
 unfold instrP at h
 split at h
 ·rename_i hc
  obtain ⟨a,h1,h⟩:=bindE h;obtain ⟨b,h2,h⟩:=bindE h;rw [<- pureE h,hc,known_mb h1]
  have:=operands_mb _ h2
  show mb (wStore :: a.1 :: b.1.map argT)+mw b.2<=_
  rw [mb_cons,mb_cons]
  show 5+1+_+_<=5+1+_
  omega
 split at h
 ·rename_i hc
  obtain ⟨a,h1,h⟩:=bindE h;obtain ⟨b,h2,h⟩:=bindE h;rw [<- pureE h,hc,name_mb h1,known_mb h2]
  show mb [wIn,a.1.1,b.1]+mw b.2<=_
  rw [mb_cons,mb_cons,mb_cons,mb_nil]
  show 2+1+_+_<=2+1+_
  omega
 split at h
 ·rename_i hc
  obtain ⟨a,h1,h⟩:=bindE h;obtain ⟨b,h2,h⟩:=bindE h;rw [<- pureE h,hc,known_mb h1]
  have:=operands_mb _ h2
  show mb (wOut :: a.1 :: b.1.map argT)+mw b.2<=_
  rw [mb_cons,mb_cons]
  show 3+1+_+_<=3+1+_
  omega
 split at h
 ·rename_i hc
  obtain ⟨a,h1,h⟩:=bindE h;rw [<- pureE h,hc,name_mb h1]
  show mb (wJump :: a.1.1 :: [])+mw a.2<=_
  rw [mb_cons,mb_cons,mb_nil]
  show 4+1+_+_<=4+1+_
  omega
 split at h
 ·rename_i hc
  obtain ⟨a,h1,h⟩:=bindE h;obtain ⟨b,h2,h⟩:=bindE h;rw [<- pureE h,hc]
  have:=operands_mb _ h1
  have h3:=name_mb h2
  show mb (wIf :: (a.1.map argT++[b.1.1]))+mw b.2<=_
  rw [mb_cons,mb_app,mb_cons,mb_nil]
  show 2+1+_+_<=2+1+_
  omega
 split at h
 ·rename_i hc
  rw [<- pureE h,hc]
  exact Nat.le_refl _
 split at h
 ·rename_i hc
  obtain ⟨u,h0,h⟩:=bindE h;obtain ⟨a,h1,h⟩:=bindE h;rw [<- pureE h,hc]
  have:=operands_mb _ h1
  show mb (wRet :: a.1.map argT)+mw a.2<=_
  rw [mb_cons]
  show 3+1+_+_<=3+1+_
  omega
 split at h
 ·rename_i s hl
  obtain ⟨u,h0,h⟩:=bindE h;rw [<- pureE h]
  show mb [s++[58]]+mw ws<=_
  unfold labelP at hl
  split at hl
  ·rename_i hg
   injection hl with hl
   have:s++[58]=c.1:=by
    obtain ⟨ys,hy⟩:=List.getLast?_eq_some_iff.1 hg.1
    rw [<- hl,hy,List.dropLast_concat]
   rw [this,mb_cons,mb_nil]
   omega
  ·cases hl
 ·obtain ⟨u,h0,h⟩:=bindE h;obtain ⟨a,h1,h⟩:=bindE h;rw [<- pureE h]
  show mb (wlI a.1)+mw a.2.2<=_
  clear h0 h
  unfold assignP at h1
  obtain ⟨b,g1,h1⟩:=bindE h1
  try dsimp only at h1
  obtain ⟨u',g2,h1⟩:=bindE h1
  obtain ⟨v,g3,h1⟩:=bindE h1
  try dsimp only at h1
  have e1:=next_mb g1
  have e2:b.1.1.length=1:=by rw [of_decide_eq_true (needM_ok g2)];rfl
  have e3:=next_mb g3
  split at h1
  ·rename_i hv
   obtain ⟨a1,k1,h1⟩:=bindE h1;obtain ⟨a2,k2,h1⟩:=bindE h1;rw [<- pureE h1]
   have e4:=known_mb k1
   have e5:=operands_mb _ k2
   have e6:v.1.1.length=4:=by rw [hv];rfl
   show mb (c.1 :: [61] :: wLoad :: a1.1 :: a2.1.map argT)+mw a2.2<=_
   rw [mb_cons,mb_cons,mb_cons,mb_cons]
   show c.1.length+1+(1+1+(4+1+_))+_<=_
   omega
  split at h1
  ·rename_i hv
   obtain ⟨⟨a1,b1,c1⟩,k1,h1⟩:=bindE h1;obtain ⟨a2,k2,h1⟩:=bindE h1;rw [<- pureE h1]
   have e4:=site_mb k1
   have e5:=operands_mb _ k2
   dsimp only at e4 e5
   have e6:v.1.1.length=7:=by rw [hv];rfl
   show mb (c.1 :: [61] :: wRelease :: a1 :: a2.1.map argT)+mw a2.2<=_
   rw [mb_cons,mb_cons,mb_cons,mb_cons]
   show c.1.length+1+(1+1+(7+1+_))+_<=_
   omega
  split at h1
  ·rename_i hv
   obtain ⟨a1,k1,h1⟩:=bindE h1;obtain ⟨a2,k2,h1⟩:=bindE h1;rw [<- pureE h1]
   have e4:=name_mb k1
   have e5:=rest_mb _ _ k2
   have e6:v.1.1.length=4:=by rw [hv];rfl
   show mb (c.1 :: [61] :: wCall :: a1.1.1 :: a2.map argT)+mw []<=_
   rw [mb_cons,mb_cons,mb_cons,mb_cons]
   show c.1.length+1+(1+1+(4+1+_))+0<=_
   omega
  split at h1
  ·rename_i hv
   obtain ⟨a2,k2,h1⟩:=bindE h1;rw [<- pureE h1]
   have e5:=operands_mb _ k2
   have hb:opB v.1.1=true:=by simp only [Bool.and_eq_true] at hv;exact hv.1
   have e6:opT (opL.idxOf v.1.1+2)=v.1.1:=by
    unfold opT
    have hm:v.1.1 ∈ opL:=by unfold opB at hb;simpa using hb
    rw [show opL.idxOf v.1.1+2 - 2=opL.idxOf v.1.1 by omega,List.getD_eq_getElem?_getD,List.getElem?_eq_getElem (List.idxOf_lt_length_of_mem hm)]
    simp
   show mb (c.1 :: [61] :: opT (opL.idxOf v.1.1+2) :: a2.1.map argT)+mw a2.2<=_
   rw [mb_cons,mb_cons,mb_cons,e6]
   show c.1.length+1+(1+1+_)+_<=_
   omega
  ·obtain ⟨a2,k2,h1⟩:=bindE h1;rw [<- pureE h1]
   have e5:=operands_mb _ k2
   show mb (c.1 :: [61] :: a2.1.map argT)+mw a2.2<=_
   rw [mb_cons,mb_cons]
   show c.1.length+1+(1+1+_)+_<=_
   omega
end
def cm (l:List In):Nat:=(l.map fun x=>mb (wlI x)).sum
def fm (f:Fu):Nat:=mb (kFunc :: f.nm :: f.params)+cm f.code
def tv (p:Pg):Nat:=9+(6+(Lib.itoa p.width).length+1)+(p.chans.map fun c=>mb [kChan,c]).sum+(p.arrays.map fun a=>mb [kArray,a.nm,Lib.itoa a.size]).sum+(p.funcs.map fm).sum+cm p.main
theorem body_tw (l:List In):((bodyW l).map mb).sum=cm l+4:=by
 unfold bodyW cm
 rw [List.map_append,List.map_map,List.sum_append]
 rfl
theorem funcs_tw:∀ l:List Fu,((l.flatMap funcW).map mb).sum=(l.map fm).sum+4*l.length
 | []=>rfl
 | f :: r=>by
  rw [List.flatMap_cons,List.map_append,List.sum_append,funcs_tw r,List.map_cons,List.sum_cons,List.length_cons]
  unfold funcW
  rw [List.map_cons,List.sum_cons,body_tw]
  unfold fm
  omega
theorem tw_tv (p:Pg):((linesW p).map mb).sum=tv p+4*p.funcs.length:=by
 unfold linesW
 rw [List.map_append,List.map_append,List.map_append,List.sum_append,List.sum_append,List.sum_append,funcs_tw,List.map_cons,List.map_cons,List.sum_cons,List.sum_cons,body_tw,List.map_map,List.map_map]
 unfold tv
 rw [mb_cons,mb_cons,mb_cons,mb_nil]
 show 5+1+_+_+_+_+(4+1+_+_)=_
 simp only [Function.comp_def]
 omega
theorem declare_tv {S S':PS} {c:Wd} {r:List Wd} (hm:declareP S c r=.ok S'):tv S'.p<=tv S.p+mw (c :: r):=by
 rw [mw_cons]
 unfold declareP at hm
 split at hm
 ·obtain ⟨a,h1,hm⟩:=bindE hm;obtain ⟨b,h2,hm⟩:=bindE hm;rw [<- pureE hm]
  have:=number_mb h1
  unfold tv
  dsimp only
  rw [Lib.itoa_nonneg]
  omega
 split at hm
 ·rename_i hc
  obtain ⟨u,h0,hm⟩:=bindE hm;obtain ⟨a,h1,hm⟩:=bindE hm;obtain ⟨b,h2,hm⟩:=bindE hm;rw [<- pureE hm,hc.1]
  have:=fresh_mb h1
  unfold tv
  dsimp only
  rw [List.map_append,List.sum_append,List.map_cons,List.map_nil,List.sum_cons,List.sum_nil,mb_cons,mb_cons,mb_nil]
  show _<=_+(4+1+_)
  show _+(_+(4+1+_+0))+_+_+_<=_
  omega
 split at hm
 ·rename_i hc
  obtain ⟨u,h0,hm⟩:=bindE hm;obtain ⟨a,h1,hm⟩:=bindE hm;obtain ⟨a2,h12,hm⟩:=bindE hm;obtain ⟨b,h2,hm⟩:=bindE hm;rw [<- pureE hm,hc.1]
  have:=fresh_mb h1
  have e2:=number_mb h12
  unfold tv
  dsimp only
  rw [List.map_append,List.sum_append,List.map_cons,List.map_nil,List.sum_cons,List.sum_nil,mb_cons,mb_cons,mb_cons,mb_nil,Lib.itoa_nonneg]
  dsimp only
  show _<=_+(5+1+_)
  show _+(_+(5+1+_+0))+_+_<=_
  omega
 split at hm
 ·rename_i hc
  obtain ⟨u,h0,hm⟩:=bindE hm;obtain ⟨a,h1,hm⟩:=bindE hm;obtain ⟨b,h2,hm⟩:=bindE hm;rw [<- pureE hm,hc.1]
  have:=fresh_mb h1
  have e2:=params_mb _ _ h2
  rw [mb_nil] at e2
  unfold tv
  dsimp only
  rw [List.map_append,List.sum_append,List.map_cons,List.map_nil,List.sum_cons,List.sum_nil]
  unfold fm
  dsimp only
  rw [mb_cons,mb_cons]
  show _<=_+(4+1+_)
  show _+(_+(4+1+_+0+0))+_<=_
  omega
 split at hm
 ·obtain ⟨b,h2,hm⟩:=bindE hm;rw [<- pureE hm]
  exact Nat.le_add_right _ _
 ·cases hm
theorem line_tv {S S':PS} {l:List Wd} (h:SIv S) (hm:lineP S l=.ok S'):tv S'.p<=tv S.p+mw l:=by
 cases l with
 | nil=>cases hm
 | cons w r =>
  unfold lineP at hm
  dsimp only at hm
  split at hm
  ·exact declare_tv hm
  split at hm
  ·cases hm
  unfold instructP at hm
  split at hm
  ·obtain ⟨u,h0,hm⟩:=bindE hm;rw [<- pureE hm];exact Nat.le_add_right _ _
  ·obtain ⟨u,h0,hm⟩:=bindE hm;obtain ⟨a,h1,hm⟩:=bindE hm;obtain ⟨b,h2,hm⟩:=bindE hm;rw [<- pureE hm]
   have e:=instr_mb h1
   show tv (putCode S _)<=_
   have hcm:∀ (l:List In) (x:In) (q:Int × Int),cm (l++[{ x with pos:=q }])=cm l+mb (wlI x):=fun l x q=>by unfold cm;rw [List.map_append,List.sum_append];rfl
   by_cases hn:S.inn=1
   ·obtain ⟨gs,f,hf⟩:∃ gs f,S.p.funcs=gs++[f]:=⟨_,_,(List.dropLast_concat_getLast (h.ne hn)).symm⟩
    obtain ⟨e1,e2⟩:=putCode_1 (l:=codeP S++[{ a.1 with pos:=wpos w }]) hn hf
    rw [e1]
    unfold tv
    dsimp only
    rw [hf]
    simp only [List.map_append,List.map_cons,List.map_nil,List.sum_append,List.sum_cons,List.sum_nil]
    unfold fm
    dsimp only
    rw [hcm,e2]
    omega
   ·unfold putCode
    rw [if_neg hn]
    unfold tv
    dsimp only
    rw [hcm]
    have:codeP S=S.p.main:=by unfold codeP;rw [if_neg hn]
    rw [this]
    omega
theorem lines_tv:∀ (o:List (List Wd)) {S S':PS},SIv S->linesP S o=.ok S'->tv S'.p<=tv S.p+(o.map mw).sum/\SIv S'
 | [],S,S',h,hm=>by rw [<- pureE (show pure S=_ from hm)];exact ⟨Nat.le_refl _,h⟩
 | l :: r,S,S',h,hm=>by
  rw [linesP_cons] at hm
  cases h1:lineP S l with
  | error e=>rw [h1] at hm;cases hm
  | ok S1 =>
   rw [h1] at hm
   have e1:=line_tv h h1
   obtain ⟨e2,e3⟩:=lines_tv r (line_keep h h1) hm
   refine ⟨?_,e3⟩
   rw [List.map_cons,List.sum_cons]
   omega
theorem flush_mb (n:Nat) (cur:Option (Bs × Nat)) (acc:List Wd):mw (flushW n cur acc)=mw acc+(match cur with | none=>0 | some (u,_)=>u.length+1):=by
 cases cur with
 | none=>rfl
 | some q=>obtain ⟨u,c⟩:=q;show mb (tx (acc++[(u,n,c)]))=_;rw [tx,List.map_append,mb_app];rfl
theorem lt_mb (n:Nat):∀ (s:Bs) (i:Nat) (cur:Option (Bs × Nat)) (acc ws:List Wd),lt n s i cur acc=.ok ws->mw ws<=mw acc+(match cur with | none=>0 | some (u,_)=>u.length)+s.length+1
 | [],i,cur,acc,ws,h=>by
  unfold lt at h;injection h with h;subst h
  rw [flush_mb]
  cases cur <;> simp <;> omega
 | c :: r,i,cur,acc,ws,h=>by
  unfold lt at h
  have hf:=flush_mb n cur acc
  split at h
  ·injection h with h;subst h
   rw [hf]
   cases cur <;> simp <;> omega
  split at h
  ·have:=lt_mb n r (i+1) none _ ws h
   rw [hf] at this
   revert this
   cases cur <;> simp only [List.length_cons] <;> intro this <;> omega
  split at h
  ·cases h
  ·have:=lt_mb n r (i+1) _ acc ws h
   revert this
   cases cur with
   | none=>unfold grow;simp only [List.length_cons,List.length_nil];intro this;omega
   | some q=>obtain ⟨t,k⟩:=q;unfold grow;simp only [List.length_cons,List.length_append,List.length_nil];intro this;omega
theorem cutNL_sum:∀ s:Bs,(cutNL s).1.length+(if (cutNL s).2.2=true then 1+(cutNL s).2.1.length else 0)=s.length
 | []=>rfl
 | c :: r=>by
  unfold cutNL
  split
  ·simp;omega
  ·have:=cutNL_sum r
   simp only [List.length_cons] at this ⊢
   omega
theorem addL_mb (out:List (List Wd)) (ws:List Wd):((addL out ws).map mw).sum=(out.map mw).sum+mw ws:=by
 unfold addL
 split
 ·rename_i h;subst h;rfl
 ·rw [List.map_append,List.sum_append];simp
theorem ls_mb:∀ (f:Nat) (s:Bs) (n:Nat) (out o:List (List Wd)),s.length<=f->ls n s out=.ok o->(o.map mw).sum<=(out.map mw).sum+s.length+1:=by
 intro f
 induction f with
 | zero =>
  intro s n out o hf h
  obtain rfl:s=[]:=List.eq_nil_of_length_eq_zero (by omega)
  rw [ls] at h
  simp [cutNL,lt,flushW,addL] at h
  subst h
  omega
 | succ f ih =>
  intro s n out o hf h
  rw [ls] at h
  have hc:=cutNL_sum s
  cases he:lt n (cutNL s).1 0 none [] with
  | error i=>rw [he] at h;cases h
  | ok ws =>
   rw [he] at h
   dsimp only at h
   have h1:=lt_mb n (cutNL s).1 0 none [] ws he
   have h2:mw []=0:=rfl
   dsimp only at h1
   split at h
   ·rename_i hm
    have:=ih _ _ _ _ (by have:=cutNL_len s hm;omega) h
    rw [addL_mb] at this
    rw [if_pos hm] at hc
    omega
   ·rename_i hm
    injection h with h;subst h
    rw [addL_mb]
    rw [if_neg hm] at hc
    omega
theorem text_short {s:Bs} {p:Pg} (h:parseE s=.ok p):(textT (linesT p)).length<=s.length+200:=by
 have hck:=(parse_cd h).2.1
 unfold parseE at h
 split at h
 ·cases h
 split at h
 ·cases h
 ·rename_i o ho
  obtain ⟨S,h1,h⟩:=bindE h;obtain ⟨u,h2,h⟩:=bindE h;obtain ⟨u',h3,h⟩:=bindE h
  have e:=pureE h
  subst e
  obtain ⟨e1,e2⟩:=lines_tv o siv0 h1
  have e3:=ls_mb s.length s 1 [] o lrf ho
  have e4:tv ps0P.p=17:=by decide +kernel
  have e5:(([]:List (List Wd)).map mw).sum=0:=rfl
  have e6:=e2.ok.fu
  rw [lines_jn,text_mb _ fun l hl=>(okw_lines S.p hck l hl).1,tw_tv]
  omega
def okE {α:Type} (Q:Int × Int->Prop) (R:α->Prop) (x:PE α):Prop:=match x with | .error f=>f.2 ≠ 0/\Q f.1 | .ok a=>R a
theorem okE.bind {α β:Type} {Q:Int × Int->Prop} {R:α->Prop} {R':β->Prop} {x:PE α} {g:α->PE β} (h:okE Q R x) (hg:∀ a,R a->okE Q R' (g a)):okE Q R' (x >>= g):=by
 cases x with
 | error f=>exact h
 | ok a=>exact hg a h
theorem okE.need {Q:Int × Int->Prop} {b:Bool} {p:Int × Int} {e:Int} (he:b=false->e ≠ 0) (hp:Q p):okE Q (fun _=>b=true) (needM b p e):=by
 cases b
 ·exact ⟨he rfl,hp⟩
 ·exact (rfl:true=true)
theorem okE.ok {α:Type} {Q:Int × Int->Prop} {R:α->Prop} {a:α} (h:R a):okE Q R (pure a:PE α):=h
section
variable {Q:Int × Int->Prop} {f:Int × Int} {ws:List Wd}
theorem ok_next (hf:Q f) (h:∀ w ∈ ws,Q (wpos w)):okE Q (fun a=>Q (wpos a.1)/\∀ w ∈ a.2,Q (wpos w)) (nextP f ws):=by
 cases ws with
 | nil=>exact ⟨by show (4:Int) ≠ 0;decide,hf⟩
 | cons a r=>exact ⟨h a (List.mem_cons_self ..),fun w hw=>h w (List.mem_cons_of_mem _ hw)⟩
theorem ok_end (h:∀ w ∈ ws,Q (wpos w)):okE Q (fun _=>True) (endP ws):=by
 cases ws with
 | nil=>exact trivial
 | cons a r=>exact ⟨by show (4:Int) ≠ 0;decide,h a (List.mem_cons_self ..)⟩
theorem ok_name (hf:Q f) (h:∀ w ∈ ws,Q (wpos w)):okE Q (fun a=>Q (wpos a.1)/\∀ w ∈ a.2,Q (wpos w)) (nameP f ws):=by
 unfold nameP
 refine (ok_next hf h).bind ?_
 rintro ⟨w,r⟩ ⟨h1,h2⟩
 refine (okE.need (fun _=>by decide) h1).bind ?_
 intro _ _
 exact ⟨h1,h2⟩
theorem ok_fresh {had:List Bs} (hf:Q f) (h:∀ w ∈ ws,Q (wpos w)):okE Q (fun a=>∀ w ∈ a.2,Q (wpos w)) (freshP f had ws):=by
 unfold freshP
 refine (ok_name hf h).bind ?_
 rintro ⟨w,r⟩ ⟨h1,h2⟩
 refine (okE.need (fun _=>by decide) h1).bind ?_
 intro _ _
 exact h2
theorem ok_known {had:List Bs} (hf:Q f) (h:∀ w ∈ ws,Q (wpos w)):okE Q (fun a=>∀ w ∈ a.2,Q (wpos w)) (knownP f had ws):=by
 unfold knownP
 refine (ok_name hf h).bind ?_
 rintro ⟨w,r⟩ ⟨h1,h2⟩
 refine (okE.need (fun _=>by decide) h1).bind ?_
 intro _ _
 exact h2
theorem ok_number {most:Nat} (hf:Q f) (h:∀ w ∈ ws,Q (wpos w)):okE Q (fun a=>∀ w ∈ a.2,Q (wpos w)) (numberP f most ws):=by
 unfold numberP
 refine (ok_next hf h).bind ?_
 rintro ⟨w,r⟩ ⟨h1,h2⟩
 refine (okE.need (fun e=>of_decide_eq_false e) h1).bind ?_
 intro _ _
 refine (okE.need (fun _=>by decide) h1).bind ?_
 intro _ _
 exact h2
theorem ok_operand (hf:Q f) (h:∀ w ∈ ws,Q (wpos w)):okE Q (fun a=>∀ w ∈ a.2,Q (wpos w)) (operandP f ws):=by
 unfold operandP
 refine (ok_next hf h).bind ?_
 rintro ⟨w,r⟩ ⟨h1,h2⟩
 dsimp only at h1 h2 ⊢
 split
 ·refine (okE.need (fun e=>of_decide_eq_false e) h1).bind ?_
  intro _ _
  exact h2
 ·refine (okE.need (fun _=>by decide) h1).bind ?_
  intro _ _
  exact h2
theorem ok_operands (hf:Q f):∀ (n:Nat) {ws:List Wd},(∀ w ∈ ws,Q (wpos w))->okE Q (fun a=>∀ w ∈ a.2,Q (wpos w)) (operandsP f n ws)
 | 0,ws,h=>h
 | n+1,ws,h=>by
  unfold operandsP
  refine (ok_operand hf h).bind ?_
  rintro ⟨a,r⟩ h1
  refine (ok_operands hf n h1).bind ?_
  rintro ⟨l,q⟩ h3
  exact h3
theorem ok_rest (hf:Q f):∀ (ws:List Wd) (k:Nat),(∀ w ∈ ws,Q (wpos w))->okE Q (fun _=>True) (restP f k ws)
 | [],k,h=>trivial
 | a :: r,k,h=>by
  unfold restP
  have ha:=h a (List.mem_cons_self ..)
  refine (okE.need (fun _=>by decide) ha).bind ?_
  intro _ _
  refine (ok_operand hf (ws:=[a]) (fun w hw=>by rw [List.mem_singleton] at hw;rw [hw];exact ha)).bind ?_
  rintro ⟨x,r1⟩ _
  refine (ok_rest hf r (k+1) fun w hw=>h w (List.mem_cons_of_mem _ hw)).bind ?_
  intro _ _
  exact trivial
theorem ok_params (hf:Q f):∀ (ws:List Wd) (had:List Bs),(∀ w ∈ ws,Q (wpos w))->okE Q (fun _=>True) (paramsP f had ws)
 | [],had,h=>trivial
 | a :: r,had,h=>by
  unfold paramsP
  have ha:=h a (List.mem_cons_self ..)
  refine (okE.need (fun _=>by decide) ha).bind ?_
  intro _ _
  refine (ok_fresh hf (ws:=[a]) (fun w hw=>by rw [List.mem_singleton] at hw;rw [hw];exact ha)).bind ?_
  rintro ⟨x,r1⟩ _
  exact ok_params hf r _ fun w hw=>h w (List.mem_cons_of_mem _ hw)
theorem ok_site {sites:List Bs} (hf:Q f) (h:∀ w ∈ ws,Q (wpos w)):okE Q (fun a=>∀ w ∈ a.2.2,Q (wpos w)) (siteP f sites ws):=by
 unfold siteP
 refine (ok_next hf h).bind ?_
 rintro ⟨w,r⟩ ⟨h1,h2⟩
 refine (okE.need (fun _=>by decide) h1).bind ?_
 intro _ _
 refine (okE.need (fun _=>by decide) h1).bind ?_
 intro _ _
 exact h2
theorem ok_assign {S:PS} {dst:Bs} (hf:Q f) (h:∀ w ∈ ws,Q (wpos w)):okE Q (fun a=>∀ w ∈ a.2.2,Q (wpos w)) (assignP S f dst ws):=by
 unfold assignP
 refine (ok_next hf h).bind ?_
 rintro ⟨w,r⟩ ⟨h1,h2⟩
 refine (okE.need (fun _=>by decide) h1).bind ?_
 intro _ _
 refine (ok_next hf h2).bind ?_
 rintro ⟨v,q⟩ ⟨h3,h4⟩
 dsimp only at h1 h2 h3 h4 ⊢
 split
 ·refine (ok_known hf h4).bind ?_
  intro a k1
  refine (ok_operands hf 1 k1).bind ?_
  intro b k2
  exact k2
 split
 ·refine (ok_site hf h4).bind ?_
  intro a k1
  refine (ok_operands hf 1 k1).bind ?_
  intro b k2
  exact k2
 split
 ·refine (ok_name hf h4).bind ?_
  rintro a ⟨k1,k2⟩
  refine (ok_rest hf _ 0 k2).bind ?_
  intro b k2
  exact fun w hw=>by cases hw
 split
 ·refine (ok_operands hf _ h4).bind ?_
  intro b k2
  exact k2
 ·refine (ok_operands hf 1 h2).bind ?_
  intro b k2
  exact k2
theorem ok_instr {S:PS} {w:Wd} (hf:Q f) (hw:Q (wpos w)) (h:∀ w ∈ ws,Q (wpos w)):okE Q (fun a=>∀ w ∈ a.2.2.2,Q (wpos w)) (instrP S f w ws):=by
 unfold instrP
 split
 ·refine (ok_known hf h).bind ?_
  intro a k1
  refine (ok_operands hf 2 k1).bind ?_
  intro b k2
  exact k2
 split
 ·refine (ok_name hf h).bind ?_
  rintro a ⟨k1,k2⟩
  refine (ok_known hf k2).bind ?_
  intro b k3
  exact k3
 split
 ·refine (ok_known hf h).bind ?_
  intro a k1
  refine (ok_operands hf 1 k1).bind ?_
  intro b k2
  exact k2
 split
 ·refine (ok_name hf h).bind ?_
  rintro a ⟨k1,k2⟩
  exact k2
 split
 ·refine (ok_operands hf 1 h).bind ?_
  intro a k1
  refine (ok_name hf k1).bind ?_
  rintro b ⟨k2,k3⟩
  exact k3
 split
 ·exact h
 split
 ·refine (okE.need (fun _=>by decide) hf).bind ?_
  intro _ _
  refine (ok_operands hf 1 h).bind ?_
  intro a k1
  exact k1
 split
 ·refine (okE.need (fun _=>by decide) hw).bind ?_
  intro _ _
  exact h
 ·refine (okE.need (fun _=>by decide) hw).bind ?_
  intro _ _
  refine (ok_assign hf h).bind ?_
  intro a k1
  exact k1
end
structure PQ (Q:Int × Int->Prop) (p:Pg):Prop where
 fp:∀ g ∈ p.funcs,Q g.pos
 fc:∀ g ∈ p.funcs,∀ x ∈ g.code,Q x.pos
 mn:∀ x ∈ p.main,Q x.pos
section
variable {Q:Int × Int->Prop} {f:Int × Int} {ws:List Wd} {S:PS}
theorem code_pq (h:PQ Q S.p):∀ x ∈ codeP S,Q x.pos:=by
 unfold codeP
 split
 ·intro x hx
  cases hg:S.p.funcs.getLast? with
  | none=>rw [hg] at hx;cases hx
  | some f=>rw [hg] at hx;exact h.fc f (List.mem_of_getLast? hg) x hx
 ·exact h.mn
theorem put_pq (h:PQ Q S.p) {l:List In} (hl:∀ x ∈ l,Q x.pos):PQ Q (putCode S l):=by
 unfold putCode
 split
 ·cases hq:S.p.funcs.getLast? with
  | none => 
   refine ⟨fun g hg=>?_,fun g hg=>?_,h.mn⟩
   ·rcases List.mem_append.1 hg with hg | hg
    ·exact h.fp g (List.dropLast_subset _ hg)
    ·cases hg
   ·rcases List.mem_append.1 hg with hg | hg
    ·exact h.fc g (List.dropLast_subset _ hg)
    ·cases hg
  | some f =>
   have hf:=List.mem_of_getLast? hq
   refine ⟨fun g hg=>?_,fun g hg=>?_,h.mn⟩
   ·rcases List.mem_append.1 hg with hg | hg
    ·exact h.fp g (List.dropLast_subset _ hg)
    ·simp only [hq,Option.map_some,Option.toList_some,List.mem_singleton] at hg;subst hg;exact h.fp f hf
   ·rcases List.mem_append.1 hg with hg | hg
    ·exact h.fc g (List.dropLast_subset _ hg)
    ·simp only [hq,Option.map_some,Option.toList_some,List.mem_singleton] at hg;subst hg;exact hl
 ·exact ⟨h.fp,h.fc,hl⟩
theorem ok_instruct {w:Wd} (hp:PQ Q S.p) (hw:Q (wpos w)) (h:∀ w ∈ ws,Q (wpos w)):okE Q (fun S':PS=>PQ Q S'.p) (instructP S w ws):=by
 unfold instructP
 split
 ·refine (ok_end h).bind ?_
  intro _ _
  exact hp
 ·refine (okE.need (fun _=>by decide) hw).bind ?_
  intro _ _
  refine (ok_instr hw hw h).bind ?_
  rintro ⟨x,l1,s1,r1⟩ k1
  refine (ok_end k1).bind ?_
  intro _ _
  refine put_pq hp fun y hy=>?_
  rcases List.mem_append.1 hy with hy | hy
  ·exact code_pq hp y hy
  ·rw [List.mem_singleton] at hy;subst hy;exact hw
theorem ok_declare {w:Wd} (hp:PQ Q S.p) (hw:Q (wpos w)) (h:∀ w ∈ ws,Q (wpos w)):okE Q (fun S':PS=>PQ Q S'.p) (declareP S w ws):=by
 unfold declareP
 split
 ·refine (ok_number hw h).bind ?_
  intro a k1
  refine (ok_end k1).bind ?_
  intro _ _
  exact ⟨hp.fp,hp.fc,hp.mn⟩
 split
 ·refine (okE.need (fun _=>by decide) hw).bind ?_
  intro _ _
  refine (ok_fresh hw h).bind ?_
  intro a k1
  refine (ok_end k1).bind ?_
  intro _ _
  exact ⟨hp.fp,hp.fc,hp.mn⟩
 split
 ·refine (okE.need (fun _=>by decide) hw).bind ?_
  intro _ _
  refine (ok_fresh hw h).bind ?_
  intro a k1
  refine (ok_number hw k1).bind ?_
  intro b k2
  refine (ok_end k2).bind ?_
  intro _ _
  exact ⟨hp.fp,hp.fc,hp.mn⟩
 split
 ·refine (okE.need (fun _=>by decide) hw).bind ?_
  intro _ _
  refine (ok_fresh hw h).bind ?_
  intro a k1
  refine (ok_params hw _ _ k1).bind ?_
  intro l _
  refine ⟨fun g hg=>?_,fun g hg=>?_,hp.mn⟩
  ·rcases List.mem_append.1 hg with hg | hg
   ·exact hp.fp g hg
   ·rw [List.mem_singleton] at hg;subst hg;exact hw
  ·rcases List.mem_append.1 hg with hg | hg
   ·exact hp.fc g hg
   ·rw [List.mem_singleton] at hg;subst hg;exact fun x hx=>by cases hx
 split
 ·refine (ok_end h).bind ?_
  intro _ _
  exact hp
 ·exact ⟨by show (4:Int) ≠ 0;decide,hw⟩
theorem ok_line {l:List Wd} (hp:PQ Q S.p) (hl:l ≠ []) (h:∀ w ∈ l,Q (wpos w)):okE Q (fun S':PS=>PQ Q S'.p) (lineP S l):=by
 cases l with
 | nil=>exact absurd rfl hl
 | cons a r =>
  have ha:=h a (List.mem_cons_self ..)
  have hr:∀ w ∈ r,Q (wpos w):=fun w hw=>h w (List.mem_cons_of_mem _ hw)
  unfold lineP
  dsimp only
  split
  ·exact ok_declare hp ha hr
  split
  ·exact ⟨by show (4:Int) ≠ 0;decide,ha⟩
  ·exact ok_instruct hp ha hr
theorem ok_lines:∀ (o:List (List Wd)) {S:PS},PQ Q S.p->(∀ l ∈ o,l ≠ []/\∀ w ∈ l,Q (wpos w))->okE Q (fun S':PS=>PQ Q S'.p) (linesP S o)
 | [],S,hp,h=>hp
 | l :: r,S,hp,h=>by
  unfold linesP
  refine (ok_line hp (h l (List.mem_cons_self ..)).1 (h l (List.mem_cons_self ..)).2).bind ?_
  intro S' h'
  exact ok_lines r h' fun k hk=>h k (List.mem_cons_of_mem _ hk)
end
theorem parse_code {s:Bs} {f:Flt} (h:parseE s=.error f):f.2 ≠ 0:=by
 unfold parseE at h
 split at h
 ·injection h with h;subst h;show (5:Int) ≠ 0;decide
 ·rename_i hl
  split at h
  ·injection h with h;subst h;show (4:Int) ≠ 0;decide
  ·rename_i o ho
   have hw:=tok_wok (by omega) ho
   have h1:=ok_lines (Q:=fun _=>True) o (S:=ps0P) ⟨fun _ _=>trivial,fun _ _ _ _=>trivial,fun _ _=>trivial⟩ fun l hl=>⟨(hw l hl).ne,fun _ _=>trivial⟩
   have h2:okE (fun _=>True) (fun _:Pg=>True) (linesP ps0P o >>= fun st=>needM (decide (st.inn=3)) (endOf s) 4 >>= fun _=>needM (decide ((checkM st.p).2=0)) (checkM st.p).1 (checkM st.p).2 >>= fun _=>pure st.p):=by
    refine h1.bind fun S hS=>?_
    refine (okE.need (fun _=>by decide) trivial).bind fun _ _=>?_
    refine (okE.need (fun e=>of_decide_eq_false e) trivial).bind fun _ _=>?_
    exact trivial
   rw [show (linesP ps0P o >>= fun st=>needM (decide (st.inn=3)) (endOf s) 4 >>= fun _=>needM (decide ((checkM st.p).2=0)) (checkM st.p).1 (checkM st.p).2 >>= fun _=>pure st.p)=.error f from h] at h2
   exact h2.1
theorem again {l:Bs} {p:Pg} (h:parseE l=.ok p) (hl:l.length<=2000):printM p=(textT (linesT p),0)/\∃ r,parseE (textT (linesT p))=.ok r/\bareP r=bareP p/\printM r=(textT (linesT p),0):=by
 obtain ⟨hc,hk,_⟩:=parse_cd h
 have hs:=text_short h
 have hp:printM p=(textT (linesT p),0):=by unfold printM;rw [if_neg (by rw [hk];decide),if_neg (by omega)]
 obtain ⟨r,hr,hb⟩:=parse_print p hk hc.num (by omega)
 obtain ⟨hcr,hkr,_⟩:=parse_cd hr
 refine ⟨hp,r,hr,hb,?_⟩
 have e:=(text_iff r p hkr hk hcr.num hc.num).2 hb
 unfold printM
 rw [if_neg (by rw [hkr];decide),e,if_neg (by omega)]
end Go.Proofs.YtoofbgoeipijcaaGreatDoor
