/-
 Reading programs: texts with the same words, line by line, give the same program but for positions. No program in sight.
-/
import Derived.Test.YtbijamcoibonkaaDoorBSPaT
namespace Go.Proofs.YtbijamcoibonkaaDoor
set_option linter.unusedSimpArgs false
set_option linter.unusedVariables false
open Go.RowKit Go.Shelf
def simE {α β:Type} (R:α→β→Prop) (x:PE α) (y:PE β):Prop:=match x,y with | .error f,.error g=>f.2=g.2 | .ok a,.ok b=>R a b | _,_=>False
theorem simE.bind {α β γ δ:Type} {R:α→β→Prop} {R':γ→δ→Prop} {x:PE α} {y:PE β} {g:α→PE γ} {g':β→PE δ} (h:simE R x y) (hg:∀ a b,R a b→simE R' (g a) (g' b)):simE R' (x >>= g) (y >>= g'):=by
 cases x <;> cases y
 ·exact h
 ·exact h.elim
 ·exact h.elim
 ·exact hg _ _ h
theorem simE.ok {α β:Type} {R:α→β→Prop} {a:α} {b:β} (h:R a b):simE R (pure a:PE α) (pure b:PE β):=h
abbrev tx (ws:List Wd):List Bs:=ws.map (·.1)
section
variable {f g:Int × Int} {ws ws':List Wd}
end
structure SS (S S':PS):Prop where
 p:bareP S.p=bareP S'.p
 lb:S.labels=S'.labels
 st:S.sites=S'.sites
 nn:S.inn=S'.inn
 sp:S.step=S'.step
theorem SS.ch {S S':PS} (h:SS S S'):S.p.chans=S'.p.chans:=bP_chans h.p
theorem SS.ar {S S':PS} (h:SS S S'):S.p.arrays=S'.p.arrays:=bP_arrays h.p
theorem SS.an {S S':PS} (h:SS S S'):anamesP S.p=anamesP S'.p:=by unfold anamesP;rw [h.ar]
theorem SS.fu {S S':PS} (h:SS S S'):S.p.funcs.map bareF=S'.p.funcs.map bareF:=bP_funcs h.p
theorem SS.mn {S S':PS} (h:SS S S'):S.p.main.map bareI=S'.p.main.map bareI:=bP_main h.p
theorem SS.fn {S S':PS} (h:SS S S'):S.p.funcs.map Fu.nm=S'.p.funcs.map Fu.nm:=by
 have:=congrArg (List.map Fu.nm) h.fu
 rw [List.map_map,List.map_map] at this
 exact this
section
variable {f g:Int × Int} {ws ws':List Wd} {S S':PS}
theorem SS.code (hS:SS S S'):(codeP S).map bareI=(codeP S').map bareI:=by
 unfold codeP
 rw [hS.nn]
 split
 ·have:=congrArg List.getLast? hS.fu
  rw [List.getLast?_map,List.getLast?_map] at this
  cases h1:S.p.funcs.getLast? with
  | none=>rw [h1] at this;cases h2:S'.p.funcs.getLast? with
   | none=>rfl
   | some b=>rw [h2] at this;cases this
  | some a=>rw [h1] at this;cases h2:S'.p.funcs.getLast? with
   | none=>rw [h2] at this;cases this
   | some b=>rw [h2] at this;exact bF_code (by simpa using this)
 ·exact hS.mn
theorem SS.put (hS:SS S S') {l l':List In} (hl:l.map bareI=l'.map bareI):bareP (putCode S l)=bareP (putCode S' l'):=by
 unfold putCode
 rw [hS.nn]
 split
 ·have h0:=congrArg List.getLast? hS.fu
  rw [List.getLast?_map,List.getLast?_map] at h0
  have hd:=congrArg List.dropLast hS.fu
  rw [← List.map_dropLast,← List.map_dropLast] at hd
  unfold bareP
  dsimp only
  rw [List.map_append,List.map_append,hd,bP_width hS.p,hS.ch,hS.ar,hS.mn]
  cases h1:S.p.funcs.getLast? with
  | none=>rw [h1] at h0;cases h2:S'.p.funcs.getLast? with
   | none=>rfl
   | some b=>rw [h2] at h0;cases h0
  | some a=>rw [h1] at h0;cases h2:S'.p.funcs.getLast? with
   | none=>rw [h2] at h0;cases h0
   | some b =>
    rw [h2] at h0
    have hb:bareF a=bareF b:=by simpa using h0
    have:bareF { a with code:=l }=bareF { b with code:=l' }:=by
     unfold bareF;dsimp only;rw [hl,bF_nm hb,bF_params hb]
    simp [this]
 ·unfold bareP
  dsimp only
  rw [hl,bP_width hS.p,hS.ch,hS.ar,hS.fu]
end
end Go.Proofs.YtbijamcoibonkaaDoor
