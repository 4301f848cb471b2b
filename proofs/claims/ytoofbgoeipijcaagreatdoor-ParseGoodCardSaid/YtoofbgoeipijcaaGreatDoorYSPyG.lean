/-
 Reading programs: what is refused has a place in the text, or at its end; what is read stands in it, line below line. No program in sight.
-/
import Derived.Test.YtoofbgoeipijcaaGreatDoorYSPyF
namespace Go.Proofs.YtoofbgoeipijcaaGreatDoor
set_option linter.unusedSimpArgs false
set_option linter.unusedVariables false
open Go.RowKit Go.Shelf
def InW (rows:List Bs) (q:Int × Int):Prop:=∃ j c,∃ h:j<rows.length,q=(((j+1:Nat):Int),((c+1:Nat):Int))/\c<rows[j].length
def InT (rows:List Bs) (q:Int × Int):Prop:=∃ j c,∃ h:j<rows.length,q=(((j+1:Nat):Int),((c+1:Nat):Int))/\c<=rows[j].length
theorem InW.t {rows:List Bs} {q:Int × Int} (h:InW rows q):InT rows q:=by
 obtain ⟨j,c,h1,h2,h3⟩:=h
 exact ⟨j,c,h1,h2,Nat.le_of_lt h3⟩
theorem word_in {rows:List Bs} {ws:List Wd} (h:RowOk rows 1 ws) (hw:WOk ws):∀ x ∈ ws,InW rows (wpos x):=by
 intro x hx
 obtain ⟨j,hj,hr⟩:=h.at'
 obtain ⟨h1,h2,h3⟩:=hr x hx
 have hne:=(hw.each x hx).1
 refine ⟨j,x.2.2 - 1,hj,?_,?_⟩
 ·unfold wpos
  rw [h1]
  congr 1
  ·show ((1+j:Nat):Int)=((j+1:Nat):Int);omega
  ·show ((x.2.2:Nat):Int)=((x.2.2 - 1+1:Nat):Int);omega
 ·have:=h3.length_le
  have h4:0<x.1.length:=List.length_pos_iff.2 hne
  rw [List.length_drop] at this
  omega
theorem lt_bad_at (n:Nat):∀ (s:Bs) (i:Nat) (cur:Option (Bs × Nat)) (acc:List Wd) {j:Nat},lt n s i cur acc = .error j->i<=j/\j<i+s.length
 | [],i,cur,acc,j,h=>by unfold lt at h;cases h
 | c :: r,i,cur,acc,j,h=>by
  unfold lt at h
  rw [List.length_cons]
  split at h
  ·cases h
  split at h
  ·have:=lt_bad_at n r (i+1) _ _ h;omega
  split at h
  ·injection h with h;omega
  ·have:=lt_bad_at n r (i+1) _ _ h;omega
theorem ls_bad_at:∀ (f:Nat) (s:Bs) (n:Nat) (out:List (List Wd)) {L C:Nat},s.length<=f->ls n s out = .error (L,C)->∃ j c,∃ h:j<(rowsNL s).length,L=n+j/\C=c+1/\c<(rowsNL s)[j].length:=by
 intro f
 induction f with
 | zero =>
  intro s n out L C hf h
  obtain rfl:s=[]:=List.eq_nil_of_length_eq_zero (by omega)
  rw [ls] at h
  simp [cutNL,lt,flushW,addL] at h
 | succ f ih =>
  intro s n out L C hf h
  rw [ls] at h
  cases he:lt n (cutNL s).1 0 none [] with
  | error i =>
   rw [he] at h
   injection h with h;injection h with h1 h2
   have:=lt_bad_at n _ _ _ _ he
   refine ⟨0,i,by rw [rowsNL];simp,by omega,by omega,?_⟩
   obtain ⟨R,e0⟩:∃ R,rowsNL s=(cutNL s).1 :: R:=⟨_,by rw [rowsNL]⟩
   have e:(rowsNL s)[0]'(by rw [rowsNL];simp)=(cutNL s).1:=by simp only [e0,List.getElem_cons_zero]
   rw [e];omega
  | ok ws =>
   rw [he] at h
   dsimp only at h
   split at h
   ·rename_i hm
    obtain ⟨j,c,hj,e1,e2,e3⟩:=ih _ _ _ (by have:=cutNL_len s hm;omega) h
    have e:rowsNL s=(cutNL s).1 :: rowsNL (cutNL s).2.1:=by rw [rowsNL,dif_pos hm]
    have hj':j+1<(rowsNL s).length:=by rw [e];simpa using hj
    refine ⟨j+1,c,hj',by omega,e2,?_⟩
    have:(rowsNL s)[j+1]=(rowsNL (cutNL s).2.1)[j]:=by simp only [e,List.getElem_cons_succ]
    rw [this];exact e3
   ·cases h
theorem cut_no:∀ (s:Bs),∀ d ∈ (cutNL s).1,d ≠ 10
 | [],d,hd=>by cases hd
 | c :: r,d,hd=>by
  unfold cutNL at hd
  split at hd
  ·cases hd
  ·rename_i hc
   rcases List.mem_cons.1 hd with e | hd
   ·rw [e];exact hc
   ·exact cut_no r d hd
theorem cut_end:∀ (s:Bs),(cutNL s).2.2=false->(cutNL s).1=s
 | [],_=>rfl
 | c :: r,h=>by
  unfold cutNL at h ⊢
  split
  ·rename_i hc;rw [if_pos hc] at h;cases h
  ·rename_i hc
   rw [if_neg hc] at h
   rw [cut_end r h]
theorem tw_ext (a s:Bs):(a++10 :: s).reverse.takeWhile (fun c=>decide (c ≠ 10))=s.reverse.takeWhile (fun c=>decide (c ≠ 10)):=by
 rw [List.reverse_append,List.reverse_cons,List.append_assoc]
 generalize s.reverse=t
 induction t with
 | nil=>simp
 | cons x r ih =>
  rw [List.cons_append,List.takeWhile_cons,List.takeWhile_cons]
  split
  ·rw [ih]
  ·rfl
theorem rows_end:∀ (f:Nat) (s:Bs),s.length<=f->(rowsNL s).length=1+s.count 10/\∃ h:s.count 10<(rowsNL s).length,(rowsNL s)[s.count 10].length=(s.reverse.takeWhile fun c=>decide (c ≠ 10)).length:=by
 intro f
 induction f with
 | zero =>
  intro s hf
  obtain rfl:s=[]:=List.eq_nil_of_length_eq_zero (by omega)
  have e:rowsNL []=[[]]:=by rw [rowsNL];rfl
  refine ⟨by rw [e];rfl,by rw [e];decide,by simp only [e];rfl⟩
 | succ f ih =>
  intro s hf
  by_cases hm:(cutNL s).2.2=true
  ·have e:rowsNL s=(cutNL s).1 :: rowsNL (cutNL s).2.1:=by rw [rowsNL,dif_pos hm]
   have es:=cutNL_eq s hm
   have hc:s.count 10=1+(cutNL s).2.1.count 10:=by
    conv=>lhs;rw [es]
    rw [List.count_append,List.count_cons]
    have:(cutNL s).1.count 10=0:=List.count_eq_zero.2 fun h=>cut_no s 10 h rfl
    rw [this];simp;omega
   obtain ⟨h1,h2,h3⟩:=ih (cutNL s).2.1 (by have:=cutNL_len s hm;omega)
   have hl:(rowsNL s).length=1+s.count 10:=by rw [e,List.length_cons,h1,hc];omega
   refine ⟨hl,by omega,?_⟩
   have ht:s.reverse.takeWhile (fun c=>decide (c ≠ 10))=(cutNL s).2.1.reverse.takeWhile (fun c=>decide (c ≠ 10)):=by
    conv=>lhs;rw [es]
    exact tw_ext _ _
   rw [ht,<- h3]
   have e2:(rowsNL s)[s.count 10]?=(rowsNL (cutNL s).2.1)[(cutNL s).2.1.count 10]?:=by rw [e,hc,Nat.add_comm 1,List.getElem?_cons_succ]
   rw [List.getElem?_eq_getElem (by omega),List.getElem?_eq_getElem h2] at e2
   injection e2 with e2
   rw [e2]
  ·have hm':(cutNL s).2.2=false:=by simpa using hm
   have e0:=cut_end s hm'
   have hno:=cut_no s
   rw [e0] at hno
   have e:rowsNL s=[s]:=by rw [rowsNL,dif_neg hm,e0]
   have hc:s.count 10=0:=List.count_eq_zero.2 fun h=>hno 10 h rfl
   refine ⟨by rw [e,hc];rfl,by rw [e,hc];exact Nat.succ_pos 0,?_⟩
   have ht:s.reverse.takeWhile (fun c=>decide (c ≠ 10))=s.reverse:=tw_all _ fun c hc=>decide_eq_true (hno c (by simpa using hc))
   rw [ht,List.length_reverse]
   simp only [e,hc]
   rfl
theorem end_in (s:Bs):InT (rowsNL s) (endOf s):=by
 obtain ⟨h1,h2,h3⟩:=rows_end s.length s lrf
 refine ⟨s.count 10,(rowsNL s)[s.count 10].length,h2,?_,Nat.le_refl _⟩
 rw [h3]
 unfold endOf
 congr 1
 ·omega
 ·omega
theorem first_in (s:Bs):InT (rowsNL s) (1,1):=⟨0,0,by rw [rowsNL];simp,rfl,Nat.zero_le _⟩
theorem refused_in {s:Bs} {f:Flt} (h:parseE s = .error f):InT (rowsNL s) f.1/\f.2 ≠ 0:=by
 refine ⟨?_,parse_code h⟩
 unfold parseE at h
 split at h
 ·injection h with h;subst h;exact first_in s
 ·rename_i hl
  split at h
  ·rename_i L C ht
   injection h with h;subst h
   obtain ⟨j,c,hj,e1,e2,e3⟩:=ls_bad_at s.length s 1 [] lrf ht
   subst e1 e2
   exact ⟨j,c,hj,by show (((1+j:Nat):Int),((c+1:Nat):Int))=(((j+1:Nat):Int),((c+1:Nat):Int));rw [Nat.add_comm 1 j],Nat.le_of_lt e3⟩
  ·rename_i o ho
   have hw:=tok_wok (by omega) ho
   have hr:=(tok_spec s o ho).1
   have hq:∀ l ∈ o,l ≠ []/\∀ w ∈ l,InW (rowsNL s) (wpos w):=fun l hl=>⟨(hw l hl).ne,word_in (hr l hl) (hw l hl)⟩
   have h1:=ok_lines (Q:=InW (rowsNL s)) o (S:=ps0P) ⟨fun g hg=>(by cases hg),fun g hg=>(by cases hg),fun x hx=>(by cases hx)⟩ hq
   cases hS:linesP ps0P o with
   | error g =>
    rw [hS] at h h1
    have e:g=f:=by injection h
    subst e
    exact h1.2.t
   | ok S =>
    rw [hS] at h h1
    have hk:=lines_ck o ck0 siv0 hS
    by_cases hn:S.inn=3
    ·by_cases hc:(checkM S.p).2=0
     ·exfalso
      simp [bind,Except.bind,needM,hn,hc,pure,Except.pure] at h
     ·have e:f=checkM S.p:=by simpa [bind,Except.bind,needM,hn,hc] using h.symm
      rw [e]
      exact (late_pos hk.1 hk.2 hn h1 hc).1.t
    ·have e:f=(endOf s,4):=by simpa [bind,Except.bind,needM,hn] using h.symm
     rw [e]
     exact end_in s
theorem line_main_up {S S':PS} {l:List Wd} (hm:lineP S l = .ok S'):S'.p.main=S.p.main\/∃ w r x,l=w :: r/\S'.p.main=S.p.main++[x]/\x.pos=wpos w:=by
 cases l with
 | nil=>cases hm
 | cons w r =>
  unfold lineP at hm
  dsimp only at hm
  split at hm
  ·left
   unfold declareP at hm
   split at hm
   ·obtain ⟨a,h1,hm⟩:=bindE hm;obtain ⟨b,h2,hm⟩:=bindE hm;rw [<- pureE hm]
   split at hm
   ·obtain ⟨u,h0,hm⟩:=bindE hm;obtain ⟨a,h1,hm⟩:=bindE hm;obtain ⟨b,h2,hm⟩:=bindE hm;rw [<- pureE hm]
   split at hm
   ·obtain ⟨u,h0,hm⟩:=bindE hm;obtain ⟨a,h1,hm⟩:=bindE hm;obtain ⟨a2,h12,hm⟩:=bindE hm;obtain ⟨b,h2,hm⟩:=bindE hm;rw [<- pureE hm]
   split at hm
   ·obtain ⟨u,h0,hm⟩:=bindE hm;obtain ⟨a,h1,hm⟩:=bindE hm;obtain ⟨b,h2,hm⟩:=bindE hm;rw [<- pureE hm]
   split at hm
   ·obtain ⟨b,h2,hm⟩:=bindE hm;rw [<- pureE hm]
   ·cases hm
  split at hm
  ·cases hm
  unfold instructP at hm
  split at hm
  ·obtain ⟨u,h0,hm⟩:=bindE hm;rw [<- pureE hm];exact .inl rfl
  ·obtain ⟨u,h0,hm⟩:=bindE hm;obtain ⟨a,h1,hm⟩:=bindE hm;obtain ⟨b,h2,hm⟩:=bindE hm;rw [<- pureE hm]
   show (putCode S _).main=_\/_
   by_cases hn:S.inn=1
   ·left;unfold putCode;rw [if_pos hn]
   ·right
    refine ⟨w,r,{ a.1 with pos:=wpos w },rfl,?_,rfl⟩
    show (putCode S _).main=_
    unfold putCode codeP
    rw [if_neg hn,if_neg hn]
theorem lines_up:∀ (o:List (List Wd)) {S S':PS},linesP S o = .ok S'->o.Pairwise Up->(∀ x ∈ S.p.main,∀ l ∈ o,∀ w ∈ l,x.pos.1<(w.2.1:Int))->S.p.main.Pairwise (fun a b=>a.pos.1<b.pos.1)->S'.p.main.Pairwise (fun a b=>a.pos.1<b.pos.1)
 | [],S,S',hm,_,_,hp=>by rw [<- pureE (show pure S=_ from hm)];exact hp
 | l :: r,S,S',hm,hu,hx,hp=>by
  rw [linesP_cons] at hm
  cases h1:lineP S l with
  | error e=>rw [h1] at hm;cases hm
  | ok S1 =>
   rw [h1] at hm
   obtain ⟨hu1,hu2⟩:=List.pairwise_cons.1 hu
   rcases line_main_up h1 with e | ⟨w,q,x,e1,e2,e3⟩
   ·exact lines_up r hm hu2 (by rw [e];exact fun y hy k hk=>hx y hy k (List.mem_cons_of_mem _ hk)) (by rw [e];exact hp)
   ·have hw:w ∈ l:=by rw [e1];exact List.mem_cons_self ..
    refine lines_up r hm hu2 ?_ ?_
    ·rw [e2]
     intro y hy k hk v hv
     rcases List.mem_append.1 hy with hy | hy
     ·exact hx y hy k (List.mem_cons_of_mem _ hk) v hv
     ·rw [List.mem_singleton] at hy;subst hy
      rw [e3]
      have:=hu1 k hk w hw v hv
      show ((w.2.1:Nat):Int)<_
      omega
    ·rw [e2,List.pairwise_append]
     refine ⟨hp,List.pairwise_singleton _ _,fun a ha b hb=>?_⟩
     rw [List.mem_singleton] at hb;subst hb
     rw [e3]
     exact hx a ha l (List.mem_cons_self ..) w hw
theorem read_in {s:Bs} {p:Pg} (h:parseE s = .ok p):(∀ x ∈ p.main,InW (rowsNL s) x.pos)/\p.main.Pairwise (fun a b=>a.pos.1<b.pos.1):=by
 unfold parseE at h
 split at h
 ·cases h
 ·rename_i hl
  split at h
  ·cases h
  ·rename_i o ho
   have hw:=tok_wok (by omega) ho
   obtain ⟨hr,hu⟩:=tok_spec s o ho
   have hq:∀ l ∈ o,l ≠ []/\∀ w ∈ l,InW (rowsNL s) (wpos w):=fun l hl=>⟨(hw l hl).ne,word_in (hr l hl) (hw l hl)⟩
   have h1:=ok_lines (Q:=InW (rowsNL s)) o (S:=ps0P) ⟨fun g hg=>(by cases hg),fun g hg=>(by cases hg),fun x hx=>(by cases hx)⟩ hq
   obtain ⟨S,hS,h⟩:=bindE h;obtain ⟨u,h2,h⟩:=bindE h;obtain ⟨u',h3,h⟩:=bindE h
   rw [hS] at h1
   rw [<- pureE h]
   exact ⟨h1.mn,lines_up o hS hu (fun x hx=>(by cases hx)) List.Pairwise.nil⟩
end Go.Proofs.YtoofbgoeipijcaaGreatDoor
