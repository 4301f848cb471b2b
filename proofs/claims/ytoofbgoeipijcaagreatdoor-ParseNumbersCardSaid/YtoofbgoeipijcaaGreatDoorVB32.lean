/-
 A part.
-/
import Derived.Test.YtoofbgoeipijcaaGreatDoorVSPnM
namespace Go.Proofs.YtoofbgoeipijcaaGreatDoor
set_option linter.all false
open Go.RowKit Go.Shelf
def simE {α β:Type} (R:α->β->Prop) (x:PE α) (y:PE β):Prop:=match x,y with | .error f,.error g=>f.2=g.2 | .ok a,.ok b=>R a b | _,_=>False
theorem simE.bind {α β γ δ:Type} {R:α->β->Prop} {R':γ->δ->Prop} {x:PE α} {y:PE β} {g:α->PE γ} {g':β->PE δ} (h:simE R x y) (hg:∀ a b,R a b->simE R' (g a) (g' b)):simE R' (x >>= g) (y >>= g'):=by
 cases x <;> cases y
 ·exact h
 ·exact h.elim
 ·exact h.elim
 ·exact hg _ _ h
theorem simE.ok {α β:Type} {R:α->β->Prop} {a:α} {b:β} (h:R a b):simE R (pure a:PE α) (pure b:PE β):=h
section
variable {f g:Int × Int} {ws ws':List Wd}
end
structure SS (S S':PS):Prop where
 p:bareP S.p=bareP S'.p
 lb:S.labels=S'.labels
 st:S.sites=S'.sites
 nn:S.inn=S'.inn
 sp:S.step=S'.step
theorem SS.ch {S S':PS} (h:SS S S'):S.p.chans=S'.p.chans:=bP_chans h.p
theorem SS.ar {S S':PS} (h:SS S S'):S.p.arrays=S'.p.arrays:=bP_arrays h.p
theorem SS.an {S S':PS} (h:SS S S'):anamesP S.p=anamesP S'.p:=by unfold anamesP;rw [h.ar]
theorem SS.fu {S S':PS} (h:SS S S'):S.p.funcs.map bareF=S'.p.funcs.map bareF:=bP_funcs h.p
theorem SS.mn {S S':PS} (h:SS S S'):S.p.main.map bareI=S'.p.main.map bareI:=bP_main h.p
theorem SS.fl {S S':PS} (h:SS S S'):S.p.funcs.length=S'.p.funcs.length:=by have:=congrArg List.length h.fu;simpa using this
theorem SS.fn {S S':PS} (h:SS S S'):S.p.funcs.map Fu.nm=S'.p.funcs.map Fu.nm:=by
 have:=congrArg (List.map Fu.nm) h.fu
 rw [List.map_map,List.map_map] at this
 exact this
section
variable {f g:Int × Int} {ws ws':List Wd} {S S':PS}
theorem SS.code (hS:SS S S'):(codeP S).map bareI=(codeP S').map bareI:=by
 unfold codeP
 rw [hS.nn]
 split
 ·have:=congrArg List.getLast? hS.fu
  rw [List.getLast?_map,List.getLast?_map] at this
  cases h1:S.p.funcs.getLast? with
  | none=>rw [h1] at this;cases h2:S'.p.funcs.getLast? with
   | none=>rfl
   | some b=>rw [h2] at this;cases this
  | some a=>rw [h1] at this;cases h2:S'.p.funcs.getLast? with
   | none=>rw [h2] at this;cases this
   | some b=>rw [h2] at this;exact bF_code (by simpa using this)
 ·exact hS.mn
theorem SS.put (hS:SS S S') {l l':List In} (hl:l.map bareI=l'.map bareI):bareP (putCode S l)=bareP (putCode S' l'):=by
 unfold putCode
 rw [hS.nn]
 split
 ·have h0:=congrArg List.getLast? hS.fu
  rw [List.getLast?_map,List.getLast?_map] at h0
  have hd:=congrArg List.dropLast hS.fu
  rw [<- List.map_dropLast,<- List.map_dropLast] at hd
  unfold bareP
  dsimp only
  rw [List.map_append,List.map_append,hd,bP_width hS.p,hS.ch,hS.ar,hS.mn]
  cases h1:S.p.funcs.getLast? with
  | none=>rw [h1] at h0;cases h2:S'.p.funcs.getLast? with
   | none=>rfl
   | some b=>rw [h2] at h0;cases h0
  | some a=>rw [h1] at h0;cases h2:S'.p.funcs.getLast? with
   | none=>rw [h2] at h0;cases h0
   | some b =>
    rw [h2] at h0
    have hb:bareF a=bareF b:=by simpa using h0
    have:bareF { a with code:=l }=bareF { b with code:=l' }:=by
     unfold bareF;dsimp only;rw [hl,bF_nm hb,bF_params hb]
    simp [this]
 ·unfold bareP
  dsimp only
  rw [hl,bP_width hS.p,hS.ch,hS.ar,hS.fu]
end
def mb (l:List Bs):Nat:=(l.map fun w=>w.length+1).sum
theorem dig_le:∀ (k u:Nat),1<=k->u<10 ^ k->Lib.nDigits u<=k
 | 0,u,h,_=>absurd h (by omega)
 | k+1,u,_,hu=>by
  by_cases h:u<10
  ·rw [Lib.nDigits_small h];omega
  ·rw [Lib.nDigits_big h]
   have hk:1<=k:=by
    cases k with
    | zero=>simp at hu;omega
    | succ k=>omega
   have:=dig_le k (u / 10) hk (by rw [Nat.pow_succ] at hu;omega)
   omega
section
variable {f:Int × Int} {ws:List Wd}
end
def cm (l:List In):Nat:=(l.map fun x=>mb (wlI x)).sum
def fm (f:Fu):Nat:=mb (kFunc :: f.nm :: f.params)+cm f.code
theorem bokE {α β:Type} {x:PE α} {g:α->PE β} {a:α} (h:x=.ok a):(x >>= g)=g a:=by rw [h];rfl
theorem berE {α β:Type} {x:PE α} {g:α->PE β} {e:Flt} (h:x=.error e):(x >>= g)=.error e:=by rw [h];rfl
def numT (W S A B:Nat):List (List Bs):=[[kWidth,Lib.decDigits W],[kArray,[97],Lib.decDigits S],[kMain],[[120],[61],[97,100,100],48 :: Lib.decDigits A,[121]],[kStore,[97],Lib.decDigits B,[120]]]
def numText (W S A B:Nat):Bs:=textT ((numT W S A B).map jn)++jn [kEnd]
def numP (W S A B:Nat):Pg:=⟨(W:Int),[],[⟨[97],(S:Int)⟩],[],[⟨1,4,[120],[],[⟨[],A⟩,⟨[121],0⟩],(4,1)⟩,⟨3,0,[],[97],[⟨[],B⟩,⟨[120],0⟩],(5,1)⟩]⟩
theorem zdec_ok (A:Nat):OkWd (48 :: Lib.decDigits A):=⟨by simp,fun d hd=>by
 rcases List.mem_cons.1 hd with rfl | hd
 ·decide
 ·exact (okw_dec A).2 d hd⟩
theorem numT_ok (W S A B:Nat):∀ l ∈ numT W S A B,l ≠ []/\∀ w ∈ l,OkWd w:=by
 intro l hl
 have e1:=okw_dec W;have e2:=okw_dec S;have e3:=zdec_ok A;have e4:=okw_dec B
 have k1:OkWd kWidth:=okw_lit (by decide)
 have k2:OkWd kArray:=okw_lit (by decide)
 have k3:OkWd kMain:=okw_lit (by decide)
 have k4:OkWd kStore:=okw_lit (by decide)
 have c1:OkWd [97]:=okw_lit (by decide)
 have c2:OkWd [120]:=okw_lit (by decide)
 have c3:OkWd [61]:=okw_lit (by decide)
 have c4:OkWd [97,100,100]:=okw_lit (by decide)
 have c5:OkWd [121]:=okw_lit (by decide)
 simp only [numT,List.mem_cons,List.not_mem_nil,or_false] at hl
 rcases hl with rfl | rfl | rfl | rfl | rfl <;> refine ⟨by simp,fun w hw=>?_⟩ <;> simp only [List.mem_cons,List.not_mem_nil,or_false] at hw
 ·rcases hw with rfl | rfl <;> assumption
 ·rcases hw with rfl | rfl | rfl <;> assumption
 ·rcases hw with rfl;assumption
 ·rcases hw with rfl | rfl | rfl | rfl | rfl <;> assumption
 ·rcases hw with rfl | rfl | rfl | rfl <;> assumption
theorem num_tok (W S A B:Nat):tok (numText W S A B)=.ok (posL 1 (numT W S A B++[[kEnd]])):=by
 unfold tok numText
 rw [ls_pos _ 1 [kEnd] [] (numT_ok W S A B) (by simp) (fun w hw=>by rw [List.mem_singleton] at hw;rw [hw];exact okw_lit (by decide))]
 rfl
theorem numR_dec {n:Nat} (h:n<=18446744073709551615):numR (Lib.decDigits n)=(n,0):=by
 have:=numR_numS 0 n h (by rw [Nat.zero_add];exact Lib.nDigits_le20 n (by omega))
 simpa [numS] using this
theorem numR_zdec {n:Nat} (h:n<10000000000000000000):numR (48 :: Lib.decDigits n)=(n,0):=by
 have:=numR_numS 1 n (by omega) (by have:=dig_le 19 n (by decide) (by simpa using h);omega)
 simpa [numS] using this
theorem num_1 {W:Nat} (h:W<=100) (c1 c2:Nat):lineP ps0P [(kWidth,1,c1),(Lib.decDigits W,1,c2)]=if 1<=W/\W<=64 then .ok ⟨⟨(W:Int),[],[],[],[]⟩,[],[],0,1⟩ else .error ((1,(c2:Int)),3):=by
 have hn:=numberP_eq (f:=wpos (kWidth,1,c1)) (most:=64) (ws:=[(Lib.decDigits W,1,c2)]) (a:=(Lib.decDigits W,1,c2)) (r:=[]) (N:=W) (E:=0) rfl (numR_dec (by omega))
 show declareP ps0P (kWidth,1,c1) [(Lib.decDigits W,1,c2)]=_
 unfold declareP
 rw [if_pos ⟨rfl,rfl⟩,hn,if_pos rfl]
 by_cases h1:1<=W
 ·rw [if_pos h1]
  by_cases h2:W<=64
  ·rw [if_pos h2,if_pos ⟨h1,h2⟩];rfl
  ·rw [if_neg h2,if_neg (fun e=>h2 e.2)];rfl
 ·rw [if_neg h1,if_neg (fun e=>h1 e.1)];rfl
theorem num_2 {W S:Nat} (h:S<=100) (c1 c2 c3:Nat):lineP ⟨⟨(W:Int),[],[],[],[]⟩,[],[],0,1⟩ [(kArray,2,c1),([97],2,c2),(Lib.decDigits S,2,c3)]=if 1<=S/\S<=64 then .ok ⟨⟨(W:Int),[],[⟨[97],(S:Int)⟩],[],[]⟩,[],[],0,2⟩ else .error ((2,(c3:Int)),3):=by
 have hn:=numberP_eq (f:=wpos (kArray,2,c1)) (most:=64) (ws:=[(Lib.decDigits S,2,c3)]) (a:=(Lib.decDigits S,2,c3)) (r:=[]) (N:=S) (E:=0) rfl (numR_dec (by omega))
 have hf:freshP (wpos (kArray,2,c1)) [] [([97],2,c2),(Lib.decDigits S,2,c3)]=.ok ([97],[(Lib.decDigits S,2,c3)]):=rfl
 show declareP ⟨⟨(W:Int),[],[],[],[]⟩,[],[],0,1⟩ (kArray,2,c1) [([97],2,c2),(Lib.decDigits S,2,c3)]=_
 unfold declareP
 rw [if_neg (fun e=>absurd (show kArray=kWidth from e.1) (by decide)),if_neg (fun e=>absurd (show kArray=kChan from e.1) (by decide)),if_pos ⟨rfl,Nat.le_refl _,Nat.le_succ _⟩]
 refine (bokE (a:=()) rfl).trans ?_
 refine (bokE (a:=(([97]:Bs),[(Lib.decDigits S,2,c3)])) hf).trans ?_
 by_cases h1:1<=S
 ·rw [if_pos rfl,if_pos h1] at hn
  by_cases h2:S<=64
  ·rw [if_pos h2] at hn
   rw [if_pos ⟨h1,h2⟩]
   exact (bokE hn).trans rfl
  ·rw [if_neg h2] at hn
   rw [if_neg (fun e=>h2 e.2)]
   exact berE hn
 ·rw [if_pos rfl,if_neg h1] at hn
  rw [if_neg (fun e=>h1 e.1)]
  exact berE hn
theorem num_4 {W S A:Nat} (h:A<10000000000000000000) (c2 c3 c4 c5:Nat):lineP ⟨⟨(W:Int),[],[⟨[97],(S:Int)⟩],[],[]⟩,[],[],2,2⟩ [([120],4,1),([61],4,c2),([97,100,100],4,c3),(48 :: Lib.decDigits A,4,c4),([121],4,c5)]=.ok ⟨⟨(W:Int),[],[⟨[97],(S:Int)⟩],[],[⟨1,4,[120],[],[⟨[],A⟩,⟨[121],0⟩],(4,1)⟩]⟩,[],[],2,2⟩:=by
 have ho:operandsP (wpos ([120],4,1)) 2 [(48 :: Lib.decDigits A,4,c4),([121],4,c5)]=.ok ([⟨[],A⟩,⟨[121],0⟩],[]):=by
  have h1:=operandP_eq (f:=wpos ([120],4,1)) (ws:=[(48 :: Lib.decDigits A,4,c4),([121],4,c5)]) (a:=(48 :: Lib.decDigits A,4,c4)) (r:=[([121],4,c5)]) (N:=A) (E:=0) rfl (numR_zdec h)
  have hd:digB ((48 :: Lib.decDigits A).headD 0)=true:=by show digB 48=true;decide
  rw [if_pos hd,if_pos rfl] at h1
  exact (bokE h1).trans rfl
 show instructP ⟨⟨(W:Int),[],[⟨[97],(S:Int)⟩],[],[]⟩,[],[],2,2⟩ ([120],4,1) [([61],4,c2),([97,100,100],4,c3),(48 :: Lib.decDigits A,4,c4),([121],4,c5)]=_
 unfold instructP
 rw [if_neg (by decide)]
 have hi:instrP ⟨⟨(W:Int),[],[⟨[97],(S:Int)⟩],[],[]⟩,[],[],2,2⟩ (wpos ([120],4,1)) ([120],4,1) [([61],4,c2),([97,100,100],4,c3),(48 :: Lib.decDigits A,4,c4),([121],4,c5)]=.ok (⟨1,4,[120],[],[⟨[],A⟩,⟨[121],0⟩],(0,0)⟩,[],[],[]):=by
  rw [instr_assign (by decide) (by decide) (by decide) (by decide) (by decide) (by decide) (by decide) (show labelP [120]=none by decide),if_pos (show namedB [120]=true by decide)]
  have ha:assignP ⟨⟨(W:Int),[],[⟨[97],(S:Int)⟩],[],[]⟩,[],[],2,2⟩ (wpos ([120],4,1)) [120] [([61],4,c2),([97,100,100],4,c3),(48 :: Lib.decDigits A,4,c4),([121],4,c5)]=.ok (⟨1,4,[120],[],[⟨[],A⟩,⟨[121],0⟩],(0,0)⟩,[],[]):=by
   rw [assignP_eq (a:=([61],4,c2)) (r:=[([97,100,100],4,c3),(48 :: Lib.decDigits A,4,c4),([121],4,c5)]) (v:=([97,100,100],4,c3)) (q:=[(48 :: Lib.decDigits A,4,c4),([121],4,c5)]) rfl rfl rfl]
   unfold assign2
   rw [if_neg (fun e=>absurd (show ([97,100,100]:Bs)=kLoad from e) (by decide)),if_neg (fun e=>absurd (show ([97,100,100]:Bs)=kRelease from e) (by decide)),if_neg (fun e=>absurd (show ([97,100,100]:Bs)=kCall from e) (by decide)),if_pos (show (opB [97,100,100] && decide (List.idxOf [97,100,100] opL+2 ≠ 21))=true by decide)]
   exact (bokE ho).trans rfl
  rw [show (([120]:Bs),4,1).1=[120] from rfl,ha]
  rfl
 show (instrP _ (wpos ([120],4,1)) ([120],4,1) _ >>= _)=_
 rw [hi]
 rfl
theorem num_5 {W S B:Nat} {x:In} (h:B<=18446744073709551615) (c2 c3 c4:Nat):lineP ⟨⟨(W:Int),[],[⟨[97],(S:Int)⟩],[],[x]⟩,[],[],2,2⟩ [(kStore,5,1),([97],5,c2),(Lib.decDigits B,5,c3),([120],5,c4)]=.ok ⟨⟨(W:Int),[],[⟨[97],(S:Int)⟩],[],[x,⟨3,0,[],[97],[⟨[],B⟩,⟨[120],0⟩],(5,1)⟩]⟩,[],[],2,2⟩:=by
 have ho:operandsP (wpos (kStore,5,1)) 2 [(Lib.decDigits B,5,c3),([120],5,c4)]=.ok ([⟨[],B⟩,⟨[120],0⟩],[]):=by
  have h1:=operandP_eq (f:=wpos (kStore,5,1)) (ws:=[(Lib.decDigits B,5,c3),([120],5,c4)]) (a:=(Lib.decDigits B,5,c3)) (r:=[([120],5,c4)]) (N:=B) (E:=0) rfl (numR_dec h)
  rw [if_pos (dec_head B).1,if_pos rfl] at h1
  exact (bokE h1).trans rfl
 show instructP ⟨⟨(W:Int),[],[⟨[97],(S:Int)⟩],[],[x]⟩,[],[],2,2⟩ (kStore,5,1) [([97],5,c2),(Lib.decDigits B,5,c3),([120],5,c4)]=_
 unfold instructP
 rw [if_neg (by decide)]
 have hi:instrP ⟨⟨(W:Int),[],[⟨[97],(S:Int)⟩],[],[x]⟩,[],[],2,2⟩ (wpos (kStore,5,1)) (kStore,5,1) [([97],5,c2),(Lib.decDigits B,5,c3),([120],5,c4)]=.ok (⟨3,0,[],[97],[⟨[],B⟩,⟨[120],0⟩],(0,0)⟩,[],[],[]):=by
  rw [instr_kStore rfl]
  unfold storeI
  have hk:knownP (wpos (kStore,5,1)) (anamesP (⟨(W:Int),[],[⟨[97],(S:Int)⟩],[],[x]⟩:Pg)) [([97],5,c2),(Lib.decDigits B,5,c3),([120],5,c4)]=.ok ([97],[(Lib.decDigits B,5,c3),([120],5,c4)]):=rfl
  show liftI _ (knownP (wpos (kStore,5,1)) (anamesP (⟨(W:Int),[],[⟨[97],(S:Int)⟩],[],[x]⟩:Pg)) [([97],5,c2),(Lib.decDigits B,5,c3),([120],5,c4)] >>= _)=_
  rw [hk]
  show liftI _ (operandsP (wpos (kStore,5,1)) 2 [(Lib.decDigits B,5,c3),([120],5,c4)] >>= _)=_
  rw [ho]
  rfl
 show (instrP _ (wpos (kStore,5,1)) (kStore,5,1) _ >>= _)=_
 rw [hi]
 rfl
theorem num_check {W S A B:Nat} (h1:1<=W) (h2:W<=64) (h3:1<=S) (h4:S<=64):checkM (numP W S A B)=((0,0),0):=by
 unfold numP checkM
 dsimp only
 rw [if_neg (by omega),if_neg (by decide)]
 show (if 32<1 then _ else match arrsM [] [⟨[97],(S:Int)⟩] with | some f=>f | none=>_)=_
 rw [if_neg (by decide)]
 have ha:arrsM [] [⟨[97],(S:Int)⟩]=none:=by
  unfold arrsM
  rw [if_neg (show ¬ namedB [97]=false by decide),if_neg (show ¬ ([]:List Bs).contains [97]=true by decide),if_neg (by dsimp only;omega)]
  rfl
 rw [ha]
 rfl
theorem num_parse {W S A B:Nat} (hW:W<=100) (hS:S<=100) (hA:A<10000000000000000000) (hB:B<=18446744073709551615) (hl:(numText W S A B).length<=65536) :
  parseE (numText W S A B)=if 1<=W/\W<=64 then (if 1<=S/\S<=64 then .ok (numP W S A B) else .error ((2,9),3)) else .error ((1,7),3):=by
 unfold parseE
 rw [if_neg (by omega),num_tok]
 dsimp only
 have e:posL 1 (numT W S A B++[[kEnd]])=[[(kWidth,1,1),(Lib.decDigits W,1,7)],[(kArray,2,1),([97],2,7),(Lib.decDigits S,2,9)],[(kMain,3,1)],[([120],4,1),([61],4,3),([97,100,100],4,5),(48 :: Lib.decDigits A,4,9),([121],4,0+1+1+1+1+3+1+(48 :: Lib.decDigits A).length+1+1)],[(kStore,5,1),([97],5,7),(Lib.decDigits B,5,9),([120],5,0+5+1+1+1+(Lib.decDigits B).length+1+1)],[(kEnd,6,1)]]:=rfl
 rw [e,linesP_cons,num_1 hW]
 by_cases h1:1<=W/\W<=64
 ·rw [if_pos h1,if_pos h1]
  dsimp only
  rw [linesP_cons,num_2 hS]
  by_cases h2:1<=S/\S<=64
  ·rw [if_pos h2,if_pos h2]
   dsimp only
   rw [linesP_cons,show lineP ⟨⟨(W:Int),[],[⟨[97],(S:Int)⟩],[],[]⟩,[],[],0,2⟩ [(kMain,3,1)]=.ok ⟨⟨(W:Int),[],[⟨[97],(S:Int)⟩],[],[]⟩,[],[],2,2⟩ from rfl]
   dsimp only
   rw [linesP_cons,num_4 hA]
   dsimp only
   rw [linesP_cons,num_5 hB]
   dsimp only
   rw [linesP_cons,show lineP ⟨⟨(W:Int),[],[⟨[97],(S:Int)⟩],[],[⟨1,4,[120],[],[⟨[],A⟩,⟨[121],0⟩],(4,1)⟩,⟨3,0,[],[97],[⟨[],B⟩,⟨[120],0⟩],(5,1)⟩]⟩,[],[],2,2⟩ [(kEnd,6,1)]=.ok ⟨numP W S A B,[],[],3,2⟩ from rfl]
   show (needM (decide (3=3)) (endOf (numText W S A B)) 4 >>= fun _=>needM (decide ((checkM (numP W S A B)).2=0)) (checkM (numP W S A B)).1 (checkM (numP W S A B)).2 >>= fun _=>pure (numP W S A B))=_
   rw [num_check h1.1 h1.2 h2.1 h2.2]
   rfl
  ·rw [if_neg h2,if_neg h2];rfl
 ·rw [if_neg h1,if_neg h1];rfl
end Go.Proofs.YtoofbgoeipijcaaGreatDoor
