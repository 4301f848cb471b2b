/-
 A part.
-/
import Derived.Test.YtoofbgoeipijcaaGreatDoorVB7
namespace Go.Proofs.YtoofbgoeipijcaaGreatDoor
set_option linter.all false
open Go.RowKit Go.Shelf
def simE {α β:Type} (R:α->β->Prop) (x:PE α) (y:PE β):Prop:=match x,y with | .error f,.error g=>f.2=g.2 | .ok a,.ok b=>R a b | _,_=>False
theorem simE.bind {α β γ δ:Type} {R:α->β->Prop} {R':γ->δ->Prop} {x:PE α} {y:PE β} {g:α->PE γ} {g':β->PE δ} (h:simE R x y) (hg:∀ a b,R a b->simE R' (g a) (g' b)):simE R' (x >>= g) (y >>= g'):=by
 cases x <;> cases y
 ·exact h
 ·exact h.elim
 ·exact h.elim
 ·exact hg _ _ h
theorem simE.need {b b':Bool} {p p':Int × Int} {e e':Int} (h:b=b') (he:e=e'):simE (fun _ _=>True) (needM b p e) (needM b' p' e'):=by
 subst h he;cases b
 ·exact (rfl:e=e)
 ·exact trivial
theorem simE.err {α β:Type} {R:α->β->Prop} {p p':Int × Int} {e:Int}:simE R (.error (p,e):PE α) (.error (p',e):PE β):=(rfl:e=e)
theorem simE.ok {α β:Type} {R:α->β->Prop} {a:α} {b:β} (h:R a b):simE R (pure a:PE α) (pure b:PE β):=h
abbrev tx (ws:List Wd):List Bs:=ws.map (·.1)
abbrev RW {α:Type} (a b:α × List Wd):Prop:=a.1=b.1/\tx a.2=tx b.2
section
variable {f g:Int × Int} {ws ws':List Wd}
theorem sim_next (h:tx ws=tx ws'):simE (fun a b=>a.1.1=b.1.1/\tx a.2=tx b.2) (nextP f ws) (nextP g ws'):=by
 cases ws with
 | nil=>cases ws' with
  | nil=>exact simE.err
  | cons a r=>simp [tx] at h
 | cons a r=>cases ws' with
  | nil=>simp [tx] at h
  | cons b q=>simp only [tx,List.map_cons,List.cons.injEq] at h;exact h
theorem sim_end (h:tx ws=tx ws'):simE (fun _ _=>True) (endP ws) (endP ws'):=by
 cases ws with
 | nil=>cases ws' with
  | nil=>exact trivial
  | cons a r=>simp [tx] at h
 | cons a r=>cases ws' with
  | nil=>simp [tx] at h
  | cons b q=>exact simE.err
theorem sim_name (h:tx ws=tx ws'):simE (fun a b=>a.1.1=b.1.1/\tx a.2=tx b.2) (nameP f ws) (nameP g ws'):=by
 unfold nameP
 refine (sim_next h).bind ?_
 rintro ⟨w,r⟩ ⟨w',r'⟩ ⟨h1,h2⟩
 refine (simE.need (by rw [h1]) rfl).bind ?_
 intro _ _ _
 exact ⟨h1,h2⟩
theorem sim_fresh {had had':List Bs} (hh:had=had') (h:tx ws=tx ws'):simE RW (freshP f had ws) (freshP g had' ws'):=by
 subst hh
 unfold freshP
 refine (sim_name h).bind ?_
 rintro ⟨w,r⟩ ⟨w',r'⟩ ⟨h1,h2⟩
 refine (simE.need (by rw [h1]) rfl).bind ?_
 intro _ _ _
 exact ⟨h1,h2⟩
theorem sim_known {had had':List Bs} (hh:had=had') (h:tx ws=tx ws'):simE RW (knownP f had ws) (knownP g had' ws'):=by
 subst hh
 unfold knownP
 refine (sim_name h).bind ?_
 rintro ⟨w,r⟩ ⟨w',r'⟩ ⟨h1,h2⟩
 refine (simE.need (by rw [h1]) rfl).bind ?_
 intro _ _ _
 exact ⟨h1,h2⟩
theorem sim_number {most:Nat} (h:tx ws=tx ws'):simE RW (numberP f most ws) (numberP g most ws'):=by
 unfold numberP
 refine (sim_next h).bind ?_
 rintro ⟨w,r⟩ ⟨w',r'⟩ ⟨h1,h2⟩
 refine (simE.need (by rw [h1]) (by rw [h1])).bind ?_
 intro _ _ _
 refine (simE.need (by rw [h1]) rfl).bind ?_
 intro _ _ _
 exact ⟨by show (numR w.1).1=_;rw [h1],h2⟩
theorem sim_operand (h:tx ws=tx ws'):simE RW (operandP f ws) (operandP g ws'):=by
 unfold operandP
 refine (sim_next h).bind ?_
 rintro ⟨w,r⟩ ⟨w',r'⟩ ⟨h1,h2⟩
 dsimp only at h1 h2 ⊢
 rw [h1]
 split
 ·refine (simE.need rfl rfl).bind ?_
  intro _ _ _
  exact ⟨rfl,h2⟩
 ·refine (simE.need rfl rfl).bind ?_
  intro _ _ _
  exact ⟨rfl,h2⟩
theorem sim_operands:∀ (n:Nat) {ws ws':List Wd},tx ws=tx ws'->simE RW (operandsP f n ws) (operandsP g n ws')
 | 0,ws,ws',h=>⟨rfl,h⟩
 | n+1,ws,ws',h=>by
  unfold operandsP
  refine (sim_operand h).bind ?_
  rintro ⟨a,r⟩ ⟨a',r'⟩ ⟨h1,h2⟩
  refine (sim_operands n h2).bind ?_
  rintro ⟨l,q⟩ ⟨l',q'⟩ ⟨h3,h4⟩
  exact ⟨by show a :: l=a' :: l';rw [show a=a' from h1,show l=l' from h3],h4⟩
theorem sim_rest:∀ {ws ws':List Wd} (k:Nat),tx ws=tx ws'->simE Eq (restP f k ws) (restP g k ws')
 | [],[],k,h=>rfl
 | [],b :: q,k,h=>by simp [tx] at h
 | a :: r,[],k,h=>by simp [tx] at h
 | a :: r,b :: q,k,h=>by
  simp only [tx,List.map_cons,List.cons.injEq] at h
  unfold restP
  refine (simE.need rfl rfl).bind ?_
  intro _ _ _
  refine (sim_operand (show tx [a]=tx [b] by simp [tx,h.1])).bind ?_
  rintro ⟨x,r1⟩ ⟨x',r1'⟩ ⟨h1,h2⟩
  refine (sim_rest (k+1) h.2).bind ?_
  rintro l l' rfl
  exact congrArg (· :: l) h1
theorem sim_params:∀ {ws ws':List Wd} (had:List Bs),tx ws=tx ws'->simE Eq (paramsP f had ws) (paramsP g had ws')
 | [],[],had,h=>rfl
 | [],b :: q,had,h=>by simp [tx] at h
 | a :: r,[],had,h=>by simp [tx] at h
 | a :: r,b :: q,had,h=>by
  simp only [tx,List.map_cons,List.cons.injEq] at h
  unfold paramsP
  refine (simE.need rfl rfl).bind ?_
  intro _ _ _
  refine (sim_fresh (had:=had) rfl (show tx [a]=tx [b] by simp [tx,h.1])).bind ?_
  rintro ⟨x,r1⟩ ⟨x',r1'⟩ ⟨h1,h2⟩
  rw [show x=x' from h1]
  exact sim_params (had++[x']) h.2
theorem sim_site {sites:List Bs} (h:tx ws=tx ws'):simE (fun a b=>a.1=b.1/\a.2.1=b.2.1/\tx a.2.2=tx b.2.2) (siteP f sites ws) (siteP g sites ws'):=by
 unfold siteP
 refine (sim_next h).bind ?_
 rintro ⟨w,r⟩ ⟨w',r'⟩ ⟨h1,h2⟩
 refine (simE.need (by rw [h1]) rfl).bind ?_
 intro _ _ _
 refine (simE.need (by rw [h1]) rfl).bind ?_
 intro _ _ _
 exact ⟨h1,by dsimp only at h1 ⊢;rw [h1],h2⟩
end
structure SS (S S':PS):Prop where
 p:bareP S.p=bareP S'.p
 lb:S.labels=S'.labels
 st:S.sites=S'.sites
 nn:S.inn=S'.inn
 sp:S.step=S'.step
theorem SS.ch {S S':PS} (h:SS S S'):S.p.chans=S'.p.chans:=bP_chans h.p
theorem SS.ar {S S':PS} (h:SS S S'):S.p.arrays=S'.p.arrays:=bP_arrays h.p
theorem SS.an {S S':PS} (h:SS S S'):anamesP S.p=anamesP S'.p:=by unfold anamesP;rw [h.ar]
theorem SS.fu {S S':PS} (h:SS S S'):S.p.funcs.map bareF=S'.p.funcs.map bareF:=bP_funcs h.p
theorem SS.mn {S S':PS} (h:SS S S'):S.p.main.map bareI=S'.p.main.map bareI:=bP_main h.p
theorem SS.fl {S S':PS} (h:SS S S'):S.p.funcs.length=S'.p.funcs.length:=by have:=congrArg List.length h.fu;simpa using this
theorem SS.fn {S S':PS} (h:SS S S'):S.p.funcs.map Fu.nm=S'.p.funcs.map Fu.nm:=by
 have:=congrArg (List.map Fu.nm) h.fu
 rw [List.map_map,List.map_map] at this
 exact this
section
variable {f g:Int × Int} {ws ws':List Wd} {S S':PS}
theorem sim_assign {dst dst':Bs} (hS:SS S S') (hd:dst=dst') (h:tx ws=tx ws'):simE (fun a b=>a.1=b.1/\a.2.1=b.2.1/\tx a.2.2=tx b.2.2) (assignP S f dst ws) (assignP S' g dst' ws'):=by
 subst hd
 unfold assignP
 refine (sim_next h).bind ?_
 rintro ⟨w,r⟩ ⟨w',r'⟩ ⟨h1,h2⟩
 refine (simE.need (by rw [h1]) rfl).bind ?_
 intro _ _ _
 refine (sim_next h2).bind ?_
 rintro ⟨v,q⟩ ⟨v',q'⟩ ⟨h3,h4⟩
 dsimp only at h1 h2 h3 h4 ⊢
 rw [h3,hS.an,hS.st]
 split
 ·refine (sim_known rfl h4).bind ?_
  rintro ⟨a,r1⟩ ⟨a',r1'⟩ ⟨k1,k2⟩
  refine (sim_operands 1 k2).bind ?_
  rintro ⟨l,r2⟩ ⟨l',r2'⟩ ⟨k3,k4⟩
  dsimp only at k1 k3;subst k1 k3
  exact ⟨rfl,rfl,k4⟩
 split
 ·refine (sim_site h4).bind ?_
  rintro ⟨a,s1,r1⟩ ⟨a',s1',r1'⟩ ⟨k1,k5,k2⟩
  refine (sim_operands 1 k2).bind ?_
  rintro ⟨l,r2⟩ ⟨l',r2'⟩ ⟨k3,k4⟩
  dsimp only at k1 k3 k5;subst k1 k3 k5
  exact ⟨rfl,rfl,k4⟩
 split
 ·refine (sim_name h4).bind ?_
  rintro ⟨a,r1⟩ ⟨a',r1'⟩ ⟨k1,k2⟩
  refine (sim_rest 0 k2).bind ?_
  rintro l l' rfl
  dsimp only at k1
  exact ⟨by dsimp only;rw [k1],rfl,rfl⟩
 split
 ·refine (sim_operands _ h4).bind ?_
  rintro ⟨l,r2⟩ ⟨l',r2'⟩ ⟨k3,k4⟩
  dsimp only at k3;subst k3
  exact ⟨rfl,rfl,k4⟩
 ·refine (sim_operands 1 h2).bind ?_
  rintro ⟨l,r2⟩ ⟨l',r2'⟩ ⟨k3,k4⟩
  dsimp only at k3;subst k3
  exact ⟨rfl,rfl,k4⟩
abbrev RInst (a b:In × List Bs × List Bs × List Wd):Prop:=a.1=b.1/\a.2.1=b.2.1/\a.2.2.1=b.2.2.1/\tx a.2.2.2=tx b.2.2.2
theorem sim_instr {w w':Wd} (hS:SS S S') (hw:w.1=w'.1) (h:tx ws=tx ws'):simE RInst (instrP S f w ws) (instrP S' g w' ws'):=by
 unfold instrP
 rw [hw,hS.an,hS.st,hS.lb,hS.ch,hS.nn]
 split
 ·refine (sim_known rfl h).bind ?_
  rintro ⟨a,r1⟩ ⟨a',r1'⟩ ⟨k1,k2⟩
  refine (sim_operands 2 k2).bind ?_
  rintro ⟨l,r2⟩ ⟨l',r2'⟩ ⟨k3,k4⟩
  dsimp only at k1 k3;subst k1 k3
  exact ⟨rfl,rfl,rfl,k4⟩
 split
 ·refine (sim_name h).bind ?_
  rintro ⟨a,r1⟩ ⟨a',r1'⟩ ⟨k1,k2⟩
  refine (sim_known rfl k2).bind ?_
  rintro ⟨l,r2⟩ ⟨l',r2'⟩ ⟨k3,k4⟩
  dsimp only at k1 k3;subst k3
  exact ⟨by dsimp only;rw [k1],rfl,rfl,k4⟩
 split
 ·refine (sim_known rfl h).bind ?_
  rintro ⟨a,r1⟩ ⟨a',r1'⟩ ⟨k1,k2⟩
  refine (sim_operands 1 k2).bind ?_
  rintro ⟨l,r2⟩ ⟨l',r2'⟩ ⟨k3,k4⟩
  dsimp only at k1 k3;subst k1 k3
  exact ⟨rfl,rfl,rfl,k4⟩
 split
 ·refine (sim_name h).bind ?_
  rintro ⟨a,r1⟩ ⟨a',r1'⟩ ⟨k1,k2⟩
  dsimp only at k1
  exact ⟨by dsimp only;rw [k1],rfl,rfl,k2⟩
 split
 ·refine (sim_operands 1 h).bind ?_
  rintro ⟨l,r2⟩ ⟨l',r2'⟩ ⟨k3,k4⟩
  refine (sim_name k4).bind ?_
  rintro ⟨a,r1⟩ ⟨a',r1'⟩ ⟨k1,k2⟩
  dsimp only at k1 k3;subst k3
  exact ⟨by dsimp only;rw [k1],rfl,rfl,k2⟩
 split
 ·exact ⟨rfl,rfl,rfl,h⟩
 split
 ·refine (simE.need rfl rfl).bind ?_
  intro _ _ _
  refine (sim_operands 1 h).bind ?_
  rintro ⟨l,r2⟩ ⟨l',r2'⟩ ⟨k3,k4⟩
  dsimp only at k3;subst k3
  exact ⟨rfl,rfl,rfl,k4⟩
 split
 ·refine (simE.need rfl rfl).bind ?_
  intro _ _ _
  exact ⟨rfl,rfl,rfl,h⟩
 ·refine (simE.need rfl rfl).bind ?_
  intro _ _ _
  refine (sim_assign hS rfl h).bind ?_
  rintro ⟨x,s1,r1⟩ ⟨x',s1',r1'⟩ ⟨k1,k5,k2⟩
  dsimp only at k1 k5;subst k1 k5
  exact ⟨rfl,rfl,rfl,k2⟩
theorem SS.code (hS:SS S S'):(codeP S).map bareI=(codeP S').map bareI:=by
 unfold codeP
 rw [hS.nn]
 split
 ·have:=congrArg List.getLast? hS.fu
  rw [List.getLast?_map,List.getLast?_map] at this
  cases h1:S.p.funcs.getLast? with
  | none=>rw [h1] at this;cases h2:S'.p.funcs.getLast? with
   | none=>rfl
   | some b=>rw [h2] at this;cases this
  | some a=>rw [h1] at this;cases h2:S'.p.funcs.getLast? with
   | none=>rw [h2] at this;cases this
   | some b=>rw [h2] at this;exact bF_code (by simpa using this)
 ·exact hS.mn
theorem SS.put (hS:SS S S') {l l':List In} (hl:l.map bareI=l'.map bareI):bareP (putCode S l)=bareP (putCode S' l'):=by
 unfold putCode
 rw [hS.nn]
 split
 ·have h0:=congrArg List.getLast? hS.fu
  rw [List.getLast?_map,List.getLast?_map] at h0
  have hd:=congrArg List.dropLast hS.fu
  rw [<- List.map_dropLast,<- List.map_dropLast] at hd
  unfold bareP
  dsimp only
  rw [List.map_append,List.map_append,hd,bP_width hS.p,hS.ch,hS.ar,hS.mn]
  cases h1:S.p.funcs.getLast? with
  | none=>rw [h1] at h0;cases h2:S'.p.funcs.getLast? with
   | none=>rfl
   | some b=>rw [h2] at h0;cases h0
  | some a=>rw [h1] at h0;cases h2:S'.p.funcs.getLast? with
   | none=>rw [h2] at h0;cases h0
   | some b =>
    rw [h2] at h0
    have hb:bareF a=bareF b:=by simpa using h0
    have:bareF { a with code:=l }=bareF { b with code:=l' }:=by
     unfold bareF;dsimp only;rw [hl,bF_nm hb,bF_params hb]
    simp [this]
 ·unfold bareP
  dsimp only
  rw [hl,bP_width hS.p,hS.ch,hS.ar,hS.fu]
theorem sim_instruct {w w':Wd} (hS:SS S S') (hw:w.1=w'.1) (h:tx ws=tx ws'):simE SS (instructP S w ws) (instructP S' w' ws'):=by
 unfold instructP
 rw [hw]
 split
 ·refine (sim_end h).bind ?_
  intro _ _ _
  exact ⟨hS.p,hS.lb,hS.st,by show (if S.inn=2 then 3 else 0)=if S'.inn=2 then 3 else 0;rw [hS.nn],hS.sp⟩
 ·have hc:=hS.code
  have hl:(codeP S).length=(codeP S').length:=by have:=congrArg List.length hc;simpa using this
  refine (simE.need (by rw [hl]) rfl).bind ?_
  intro _ _ _
  refine (sim_instr hS hw h).bind ?_
  rintro ⟨x,l1,s1,r1⟩ ⟨x',l1',s1',r1'⟩ ⟨k1,k2,k3,k4⟩
  refine (sim_end k4).bind ?_
  intro _ _ _
  dsimp only at k1 k2 k3;subst k1 k2 k3
  exact ⟨hS.put (by rw [List.map_append,List.map_append,hc];rfl),rfl,rfl,hS.nn,hS.sp⟩
theorem sim_declare {w w':Wd} (hS:SS S S') (hw:w.1=w'.1) (h:tx ws=tx ws'):simE SS (declareP S w ws) (declareP S' w' ws'):=by
 unfold declareP
 rw [hw,hS.sp]
 split
 ·refine (sim_number h).bind ?_
  rintro ⟨n,r⟩ ⟨n',r'⟩ ⟨h1,h2⟩
  refine (sim_end h2).bind ?_
  intro _ _ _
  dsimp only at h1;subst h1
  exact ⟨by unfold bareP;dsimp only;rw [hS.ch,hS.ar,hS.fu,hS.mn],hS.lb,hS.st,hS.nn,rfl⟩
 split
 ·refine (simE.need (by rw [hS.ch]) rfl).bind ?_
  intro _ _ _
  refine (sim_fresh hS.ch h).bind ?_
  rintro ⟨n,r⟩ ⟨n',r'⟩ ⟨h1,h2⟩
  refine (sim_end h2).bind ?_
  intro _ _ _
  dsimp only at h1;subst h1
  exact ⟨by unfold bareP;dsimp only;rw [bP_width hS.p,hS.ch,hS.ar,hS.fu,hS.mn],hS.lb,hS.st,hS.nn,rfl⟩
 split
 ·refine (simE.need (by rw [hS.ar]) rfl).bind ?_
  intro _ _ _
  refine (sim_fresh hS.an h).bind ?_
  rintro ⟨n,r⟩ ⟨n',r'⟩ ⟨h1,h2⟩
  refine (sim_number h2).bind ?_
  rintro ⟨m,r⟩ ⟨m',r'⟩ ⟨h3,h4⟩
  refine (sim_end h4).bind ?_
  intro _ _ _
  dsimp only at h1 h3;subst h1 h3
  exact ⟨by unfold bareP;dsimp only;rw [bP_width hS.p,hS.ch,hS.ar,hS.fu,hS.mn],hS.lb,hS.st,hS.nn,rfl⟩
 split
 ·refine (simE.need (by rw [hS.fl]) rfl).bind ?_
  intro _ _ _
  refine (sim_fresh hS.fn h).bind ?_
  rintro ⟨n,r⟩ ⟨n',r'⟩ ⟨h1,h2⟩
  refine (sim_params [] h2).bind ?_
  rintro l l' rfl
  dsimp only at h1;subst h1
  exact ⟨by unfold bareP;dsimp only;rw [List.map_append,List.map_append,bP_width hS.p,hS.ch,hS.ar,hS.fu,hS.mn];rfl,rfl,hS.st,rfl,rfl⟩
 split
 ·refine (sim_end h).bind ?_
  intro _ _ _
  exact ⟨hS.p,rfl,hS.st,rfl,rfl⟩
 ·exact simE.err
theorem sim_line {l l':List Wd} (hS:SS S S') (h:tx l=tx l'):simE SS (lineP S l) (lineP S' l'):=by
 cases l with
 | nil=>cases l' with
  | nil=>exact simE.err
  | cons a r=>simp [tx] at h
 | cons a r=>cases l' with
  | nil=>simp [tx] at h
  | cons b q =>
   simp only [tx,List.map_cons,List.cons.injEq] at h
   unfold lineP
   dsimp only
   rw [hS.nn]
   split
   ·exact sim_declare hS h.1 h.2
   split
   ·exact simE.err
   ·exact sim_instruct hS h.1 h.2
end
theorem sim_lines:∀ (o o':List (List Wd)) {S S':PS},SS S S'->txts o=txts o'->simE SS (linesP S o) (linesP S' o')
 | [],[],S,S',hS,h=>hS
 | [],b :: q,S,S',hS,h=>by simp [txts] at h
 | a :: r,[],S,S',hS,h=>by simp [txts] at h
 | a :: r,b :: q,S,S',hS,h=>by
  simp only [txts,List.map_cons,List.cons.injEq] at h
  unfold linesP
  refine (sim_line hS h.1).bind ?_
  intro S1 S1' h1
  exact sim_lines r q h1 h.2
theorem parse_same {s s':Bs} {o o':List (List Wd)} (hs:s.length<=65536) (hs':s'.length<=65536) (h:tok s=.ok o) (h':tok s'=.ok o') (ht:txts o=txts o'):(parseM s).2.2=(parseM s').2.2/\bareP (parseM s).1=bareP (parseM s').1:=by
 have hm:simE (fun p q=>bareP p=bareP q) (parseE s) (parseE s'):=by
  unfold parseE
  rw [if_neg (by omega),if_neg (by omega),h,h']
  dsimp only
  refine (sim_lines o o' (S:=ps0P) (S':=ps0P) ⟨rfl,rfl,rfl,rfl,rfl⟩ ht).bind ?_
  intro S S' hS
  refine (simE.need (by rw [hS.nn]) rfl).bind ?_
  intro _ _ _
  have hc:=check_bare S.p S'.p hS.p
  refine (simE.need (by rw [hc]) hc).bind ?_
  intro _ _ _
  exact hS.p
 unfold parseM
 cases h1:parseE s with
 | error f=>cases h2:parseE s' with
  | error g=>rw [h1,h2] at hm;exact ⟨hm,rfl⟩
  | ok q=>rw [h1,h2] at hm;exact hm.elim
 | ok p=>cases h2:parseE s' with
  | error g=>rw [h1,h2] at hm;exact hm.elim
  | ok q=>rw [h1,h2] at hm;exact ⟨rfl,hm⟩
def addT (out:List (List Bs)) (l:List Bs):List (List Bs):=if l=[] then out else out++[l]
def tailT (c:UInt8):List Bs->List Bs
 | []=>[]
 | [t]=>[t++[c]]
 | x :: y :: r=>x :: tailT c (y :: r)
def rw_:Bs->List (List Bs)->List Bs->Bool->Bool->Option (List (List Bs))
 | [],out,line,_,_=>some (addT out line)
 | c :: r,out,line,com,wd =>
  if c=10 then rw_ r (addT out line) [] false false
  else if com=true then rw_ r out line com wd
  else if c=35 then rw_ r out line true wd
  else if sepB c=true then rw_ r out line com false
  else if badB c=true then none
  else if wd=true then rw_ r out (tailT c line) com wd
  else rw_ r out (line++[[c]]) com true
theorem tailT_map (c:UInt8):∀ l:List Wd,(tail1 c l).map (·.1)=tailT c (l.map (·.1))
 | []=>rfl
 | [x]=>rfl
 | x :: y :: r=>by
  show x.1 :: (tail1 c (y :: r)).map (·.1)=x.1 :: tailT c ((y :: r).map (·.1))
  rw [tailT_map c (y :: r)]
theorem addT_map (out:List (List Wd)) (l:List Wd):txts (addL out l)=addT (txts out) (l.map (·.1)):=by
 unfold addL addT txts
 cases l with
 | nil=>rfl
 | cons a r=>simp
theorem rt_rw:∀ (s:Bs) (L C:Nat) (out:List (List Wd)) (line:List Wd) (com wd:Bool),
  (match rt s L C out line com wd with | .ok o=>some (txts o) | .error _=>none)=rw_ s (txts out) (line.map (·.1)) com wd
 | [],L,C,out,line,com,wd=>by
  show some (txts (addL out line))=some (addT (txts out) (line.map (·.1)))
  rw [addT_map]
 | c :: r,L,C,out,line,com,wd=>by
  unfold rt rw_
  by_cases h1:c=10
  ·rw [if_pos h1,if_pos h1,rt_rw r,addT_map];rfl
  ·rw [if_neg h1,if_neg h1]
   by_cases h2:com=true
   ·rw [if_pos h2,if_pos h2,rt_rw r]
   ·rw [if_neg h2,if_neg h2]
    by_cases h3:c=35
    ·rw [if_pos h3,if_pos h3,rt_rw r]
    ·rw [if_neg h3,if_neg h3]
     by_cases h4:sepB c=true
     ·rw [if_pos h4,if_pos h4,rt_rw r]
     ·rw [if_neg h4,if_neg h4]
      by_cases h5:badB c=true
      ·rw [if_pos h5,if_pos h5]
      ·rw [if_neg h5,if_neg h5]
       by_cases h6:wd=true
       ·rw [if_pos h6,if_pos h6,rt_rw r,tailT_map]
       ·rw [if_neg h6,if_neg h6,rt_rw r,List.map_append];rfl
theorem tok_rw (s:Bs):(match tok s with | .ok o=>some (txts o) | .error _=>none)=rw_ s [] [] false false:=by
 rw [<- rt_tok];exact rt_rw s 1 1 [] [] false false
def nlA (n:Nat):Bs:=if n=0 then [] else if n=1 then [32] else if n=2 then [9,35] else [32,35,32,120,32,61,32,49]
def nlB (n:Nat):Bs:=if n=0 then [] else if n=1 then [10] else if n=2 then [35,10] else [9]
def blk (n:Nat):Bs:=if n=0 then [32] else if n=1 then [32,32] else if n=2 then [9] else [32,9]
def spM (f:Nat->Nat):Bs->Nat->Bool->Bs
 | [],_,_=>[]
 | c :: r,k,com =>
  if c=35 then c :: spM f r (k+1) true
  else if c=10 then (if com=true then [10] else nlA (f (k+1))++10 :: nlB (f (k+1)))++spM f r (k+1) false
  else if c=32/\com=false then blk (f (k+1))++spM f r (k+1) com
  else c :: spM f r (k+1) com
theorem rw_nlA (n:Nat) (t:Bs) (out:List (List Bs)) (line:List Bs) (wd:Bool):rw_ (nlA n++10 :: t) out line false wd=rw_ t (addT out line) [] false false:=by
 unfold nlA
 split
 ·simp [rw_]
 ·split
  ·simp [rw_,sepB]
  ·split
   ·simp [rw_,sepB]
   ·simp [rw_,sepB]
theorem rw_nlB (n:Nat) (t:Bs) (out:List (List Bs)):rw_ (nlB n++t) out [] false false=rw_ t out [] false false:=by
 unfold nlB
 split
 ·simp
 ·split
  ·simp [rw_,addT]
  ·split
   ·simp [rw_,addT]
   ·simp [rw_,sepB]
theorem rw_blk (n:Nat) (t:Bs) (out:List (List Bs)) (line:List Bs) (wd:Bool):rw_ (blk n++t) out line false wd=rw_ t out line false false:=by
 unfold blk
 split
 ·simp [rw_,sepB]
 ·split
  ·simp [rw_,sepB]
  ·split
   ·simp [rw_,sepB]
   ·simp [rw_,sepB]
theorem rw_sp (f:Nat->Nat):∀ (s:Bs) (k:Nat) (com wd:Bool) (out:List (List Bs)) (line:List Bs),rw_ (spM f s k com) out line com wd=rw_ s out line com wd
 | [],k,com,wd,out,line=>rfl
 | c :: r,k,com,wd,out,line=>by
  unfold spM
  by_cases h1:c=35
  ·subst h1
   rw [if_pos rfl]
   unfold rw_
   cases com <;> simp [rw_sp f r]
  ·rw [if_neg h1]
   by_cases h2:c=10
   ·subst h2
    rw [if_pos rfl]
    cases com
    ·rw [if_neg (by decide),List.append_assoc,List.cons_append,rw_nlA,rw_nlB,rw_sp f r]
     simp [rw_]
    ·rw [if_pos rfl,List.cons_append,List.nil_append]
     simp [rw_,rw_sp f r]
   ·rw [if_neg h2]
    by_cases h3:c=32/\com=false
    ·obtain ⟨rfl,rfl⟩:=h3
     rw [if_pos ⟨rfl,rfl⟩,rw_blk,rw_sp f r]
     simp [rw_,sepB]
    ·rw [if_neg h3]
     unfold rw_
     rw [if_neg h2,if_neg h2]
     cases com
     ·simp [h1,rw_sp f r]
     ·simp [rw_sp f r]
theorem sp_len (f:Nat->Nat):∀ (s:Bs) (k:Nat) (com:Bool),(spM f s k com).length<=11*s.length
 | [],k,com=>Nat.zero_le _
 | c :: r,k,com=>by
  have a:=sp_len f r (k+1) true
  have b:=sp_len f r (k+1) false
  have d:=sp_len f r (k+1) com
  have e1:(nlA (f (k+1))).length<=8:=by
   unfold nlA
   repeat' split
   all_goals simp
  have e2:(nlB (f (k+1))).length<=2:=by
   unfold nlB
   repeat' split
   all_goals simp
  have e3:(blk (f (k+1))).length<=2:=by
   unfold blk
   repeat' split
   all_goals simp
  unfold spM
  split
  ·simp only [List.length_cons];omega
  ·split
   ·split
    ·simp only [List.length_append,List.length_cons,List.length_nil];omega
    ·simp only [List.length_append,List.length_cons];omega
   ·split
    ·simp only [List.length_append,List.length_cons];omega
    ·simp only [List.length_cons];omega
theorem tok_sp (f:Nat->Nat) (s:Bs):(∃ a b,tok s=.error a/\tok (spM f s 0 false)=.error b)\/(∃ o o',tok s=.ok o/\tok (spM f s 0 false)=.ok o'/\txts o=txts o'):=by
 have h1:=tok_rw s
 have h2:=tok_rw (spM f s 0 false)
 rw [rw_sp,<- h1] at h2
 cases e1:tok s with
 | error a =>
  rw [e1] at h2
  cases e2:tok (spM f s 0 false) with
  | error b=>exact .inl ⟨a,b,rfl,rfl⟩
  | ok o=>rw [e2] at h2;simp at h2
 | ok o =>
  rw [e1] at h2
  cases e2:tok (spM f s 0 false) with
  | error b=>rw [e2] at h2;simp at h2
  | ok o'=>rw [e2] at h2;exact .inr ⟨o,o',rfl,rfl,by simpa using h2.symm⟩
theorem spread_same (f:Nat->Nat) (s:Bs) (hs:s.length<=1500):(parseM s).2.2=(parseM (spM f s 0 false)).2.2/\bareP (parseM s).1=bareP (parseM (spM f s 0 false)).1:=by
 have hl:=sp_len f s 0 false
 rcases tok_sp f s with ⟨a,b,e1,e2⟩ | ⟨o,o',e1,e2,e3⟩
 ·have p1:parseE s=.error (((a.1:Int),(a.2:Int)),4):=by unfold parseE;rw [if_neg (by omega),e1]
  have p2:parseE (spM f s 0 false)=.error (((b.1:Int),(b.2:Int)),4):=by unfold parseE;rw [if_neg (by omega),e2]
  unfold parseM;rw [p1,p2];exact ⟨rfl,rfl⟩
 ·exact parse_same (by omega) (by omega) e1 e2 e3
open Go.ChangeShapes Go.WideShapes Go.ChangeAt Go.RowKit Go.Joins
def u8v (c:UInt8):Value := .int .u8 (c.toNat:Int)
def Bys (R:Nat->Prop) (w:World) (v:Value) (b:List UInt8):Prop:=Sl R w v (b.map u8v)
theorem Bys.op {R:Nat->Prop} {w:World} {v:Value} {xs:List UInt8} (h:Bys R w v xs) :
  ∃ p c,v=.slice p xs.length c/\xs.length<=c/\c<=maxLen/\xs.length<=140737488355328/\RowR R w p (xs.map u8v):=by
 obtain ⟨p,c,e,h1,h2,h3,hr⟩:=h
 rw [List.length_map] at e h1 h3
 exact ⟨p,c,e,h1,h2,h3,hr⟩
theorem Bys.keep {R R':Nat->Prop} {w w':World} {v:Value} {xs:List UInt8} (h:Bys R w v xs) (hf:∀ k,R k->R' k/\w'.heap[k]?=w.heap[k]?):Bys R' w' v xs:=Sl.keep h hf
theorem Bys.below {R:Nat->Prop} {w w':World} {v:Value} {xs:List UInt8} (h:Bys R w v xs) (hR:∀ k,R k->k<w.heap.size) (hb:Below w.heap.size w w'):Bys R w' v xs:=Sl.keep h fun k hk=>⟨hk,hb.block k (hR k hk)⟩
theorem RowR.at8 {R:Nat->Prop} {w:World} {p:Option Addr} {xs:List UInt8} (h:RowR R w p (xs.map u8v)) (k:Nat) (hk:k<xs.length) :
  ∃ b off,p=some ⟨b,off,none⟩/\R b/\(∀ j (h:j<xs.length),w.cell? ⟨b,off+j,none⟩=some (.int .u8 (xs[j].toNat:Int))):=by
 obtain ⟨b,off,e,hR,hc⟩:=h.at k (by simpa using hk)
 exact ⟨b,off,e,hR,fun j hj=>by rw [hc j (by simpa using hj)];simp [u8v]⟩
section
variable {H:Type} {enc:TypeId × Value->H} {W:World}
theorem bytes_u8:Tryz.prog.bytesOf 5=1:=by kernel_rfl
theorem wf_u8 {x:Int} (h:(Lit.int .u8 x).wf=true):0<=x/\x<=255:=by
 have h1:IntKind.u8.min=0:=by decide
 have h2:IntKind.u8.max=255:=by decide
 simp [Lit.wf] at h
 omega
theorem u8s_open {n:Nat} {v:Value} {y:DataW H × List MemPlace} (h:DataW.trod enc Tryz.prog W 0 (fun _=>true) true n 51 [v]=some y) (hs:∀ m ∈ y.1.weights Tryz.prog 51,m<=reachBytes) :
  ∃ xs,Bys (·<W.heap.size) W v xs:=by
 rcases Go.ChangeShapes.open_ints Tryz.underlying51 Tryz.underlying5 (by kernel_rfl) h with ⟨hcs,_⟩ | ⟨a,len,cap,zs,hcs,_,hl,hm,hz,hx,hcell,hwz⟩
 ·simp at hcs
  subst hcs
  exact ⟨[],Sl.nil⟩
 ·simp at hcs
  subst hcs
  simp only [if_true] at hz
  subst hx
  have hlen:(zs.take len).length=len:=by rw [List.length_take];omega
  have hr:cap*1<=140737488351232:=by
   have:=hs (((lits (H:=H) .u8 (zs.take len)).length+(lits (H:=H) .u8 (zs.drop len)).length)*Tryz.prog.bytesOf 5) (by simp [DataW.weights,Tryz.underlying51])
   rw [bytes_u8] at this
   simp only [lits,List.length_map,List.length_take,List.length_drop,reachBytes] at this
   omega
  have hml:((zs.take len).map fun z=>UInt8.ofNat z.toNat).length=len:=by rw [List.length_map,hlen]
  refine ⟨(zs.take len).map fun z=>UInt8.ofNat z.toNat,some a,cap,by rw [List.length_map,hml],by rw [List.length_map,hml];exact hl,hm,by rw [List.length_map,hml];omega,?_⟩
  by_cases h0:len=0
  ·subst h0;exact .inl rfl
  ·obtain ⟨b,off,spot⟩:=a
   have hspot:spot=none:=by simpa [Addr.add] using World.cell?_spot (hcell 0 (by omega))
   subst hspot
   have hc0:=hcell 0 (by omega)
   refine .inr ⟨b,off,rfl,cell_lt (by simpa [Addr.add] using hc0),fun j hj=>?_⟩
   have hj2:j<len:=by rw [List.length_map,hml] at hj;exact hj
   have hjz:j<zs.length:=by omega
   rw [show (⟨b,off+j,none⟩:Addr)=(⟨b,off,none⟩:Addr).add j from by simp [Addr.add],hcell j (by omega)]
   have hb:=wf_u8 (hwz zs[j] (List.getElem_mem hjz))
   have e:(zs.getD j 0)=zs[j]:=by simp [List.getD,hjz]
   rw [e]
   simp only [u8v,List.getElem_map,List.getElem_take]
   rw [UInt8.toNat_ofNat']
   congr 2
   omega
end
open Go.RowKit
section
variable {Fe:Fence} {n:Nat} {P:Program} {ops:Array Oper} {Q:Exit->Act->World->Prop} {md:Region.Mode} {S:World->Prop}
theorem wpHJ_both (i j:Nat) {z:Nat} {oi oj:Oper} {fuel:Nat} {listed:Array Bool} {a:Act} {w:World} (hr:Region.ready md ops listed=[i,j]) (hi:ops[i]?=some oi) (hj:ops[j]?=some oj)
  (h:∀ K:Act->World->Prop,(∀ a' w',(i=z\/listed.getD z false=true\/S w')->wpHJ Fe n P md ops Q S z fuel (listed.setIfInBounds i true) a' w'->K a' w') ->
   if Region.wanted oi (yielded ops a.tmps) then oi.wpIn Fe n P a w K Q else (∀ f,oi.about P w a.eval=some f->Fe.fn f)/\K (a.put oi.dst undef) w)
  (h':∀ K:Act->World->Prop,(∀ a' w',(j=z\/listed.getD z false=true\/S w')->wpHJ Fe n P md ops Q S z fuel (listed.setIfInBounds j true) a' w'->K a' w') ->
   if Region.wanted oj (yielded ops a.tmps) then oj.wpIn Fe n P a w K Q else (∀ f,oj.about P w a.eval=some f->Fe.fn f)/\K (a.put oj.dst undef) w) :
  wpHJ Fe n P md ops Q S z (fuel+1) listed a w:=by
 refine ⟨fun h0=>(by rw [h0] at hr;cases hr),fun k hk=>?_⟩
 rw [hr] at hk
 simp only [List.mem_cons,List.not_mem_nil,or_false] at hk
 rcases hk with rfl | rfl
 ·unfold wpOpIn
  simp only [hi]
  exact h _ (fun a' w' h1 h2=>⟨h1,h2⟩)
 ·unfold wpOpIn
  simp only [hj]
  exact h' _ (fun a' w' h1 h2=>⟨h1,h2⟩)
end
end Go.Proofs.YtoofbgoeipijcaaGreatDoor
