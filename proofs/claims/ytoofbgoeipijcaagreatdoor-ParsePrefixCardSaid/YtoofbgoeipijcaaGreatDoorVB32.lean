/-
 A part.
-/
import Derived.Test.YtoofbgoeipijcaaGreatDoorVSPyF
namespace Go.Proofs.YtoofbgoeipijcaaGreatDoor
set_option linter.all false
open Go.RowKit Go.Shelf
def InW (rows:List Bs) (q:Int × Int):Prop:=∃ j c,∃ h:j<rows.length,q=(((j+1:Nat):Int),((c+1:Nat):Int))/\c<rows[j].length
def InT (rows:List Bs) (q:Int × Int):Prop:=∃ j c,∃ h:j<rows.length,q=(((j+1:Nat):Int),((c+1:Nat):Int))/\c<=rows[j].length
theorem InW.t {rows:List Bs} {q:Int × Int} (h:InW rows q):InT rows q:=by
 obtain ⟨j,c,h1,h2,h3⟩:=h
 exact ⟨j,c,h1,h2,Nat.le_of_lt h3⟩
theorem word_in {rows:List Bs} {ws:List Wd} (h:RowOk rows 1 ws) (hw:WOk ws):∀ x ∈ ws,InW rows (wpos x):=by
 intro x hx
 obtain ⟨j,hj,hr⟩:=h.at'
 obtain ⟨h1,h2,h3⟩:=hr x hx
 have hne:=(hw.each x hx).1
 refine ⟨j,x.2.2 - 1,hj,?_,?_⟩
 ·unfold wpos
  rw [h1]
  congr 1
  ·show ((1+j:Nat):Int)=((j+1:Nat):Int);omega
  ·show ((x.2.2:Nat):Int)=((x.2.2 - 1+1:Nat):Int);omega
 ·have:=h3.length_le
  have h4:0<x.1.length:=List.length_pos_iff.2 hne
  rw [List.length_drop] at this
  omega
theorem lt_bad_at (n:Nat):∀ (s:Bs) (i:Nat) (cur:Option (Bs × Nat)) (acc:List Wd) {j:Nat},lt n s i cur acc=.error j->i<=j/\j<i+s.length
 | [],i,cur,acc,j,h=>by unfold lt at h;cases h
 | c :: r,i,cur,acc,j,h=>by
  unfold lt at h
  rw [List.length_cons]
  split at h
  ·cases h
  split at h
  ·have:=lt_bad_at n r (i+1) _ _ h;omega
  split at h
  ·injection h with h;omega
  ·have:=lt_bad_at n r (i+1) _ _ h;omega
theorem ls_bad_at:∀ (f:Nat) (s:Bs) (n:Nat) (out:List (List Wd)) {L C:Nat},s.length<=f->ls n s out=.error (L,C)->∃ j c,∃ h:j<(rowsNL s).length,L=n+j/\C=c+1/\c<(rowsNL s)[j].length:=by
 intro f
 induction f with
 | zero =>
  intro s n out L C hf h
  obtain rfl:s=[]:=List.eq_nil_of_length_eq_zero (by omega)
  rw [ls] at h
  simp [cutNL,lt,flushW,addL] at h
 | succ f ih =>
  intro s n out L C hf h
  rw [ls] at h
  cases he:lt n (cutNL s).1 0 none [] with
  | error i =>
   rw [he] at h
   injection h with h;injection h with h1 h2
   have:=lt_bad_at n _ _ _ _ he
   refine ⟨0,i,by rw [rowsNL];simp,by omega,by omega,?_⟩
   obtain ⟨R,e0⟩:∃ R,rowsNL s=(cutNL s).1 :: R:=⟨_,by rw [rowsNL]⟩
   have e:(rowsNL s)[0]'(by rw [rowsNL];simp)=(cutNL s).1:=by simp only [e0,List.getElem_cons_zero]
   rw [e];omega
  | ok ws =>
   rw [he] at h
   dsimp only at h
   split at h
   ·rename_i hm
    obtain ⟨j,c,hj,e1,e2,e3⟩:=ih _ _ _ (by have:=cutNL_len s hm;omega) h
    have e:rowsNL s=(cutNL s).1 :: rowsNL (cutNL s).2.1:=by rw [rowsNL,dif_pos hm]
    have hj':j+1<(rowsNL s).length:=by rw [e];simpa using hj
    refine ⟨j+1,c,hj',by omega,e2,?_⟩
    have:(rowsNL s)[j+1]=(rowsNL (cutNL s).2.1)[j]:=by simp only [e,List.getElem_cons_succ]
    rw [this];exact e3
   ·cases h
theorem cut_no:∀ (s:Bs),∀ d ∈ (cutNL s).1,d ≠ 10
 | [],d,hd=>by cases hd
 | c :: r,d,hd=>by
  unfold cutNL at hd
  split at hd
  ·cases hd
  ·rename_i hc
   rcases List.mem_cons.1 hd with e | hd
   ·rw [e];exact hc
   ·exact cut_no r d hd
theorem cut_end:∀ (s:Bs),(cutNL s).2.2=false->(cutNL s).1=s
 | [],_=>rfl
 | c :: r,h=>by
  unfold cutNL at h ⊢
  split
  ·rename_i hc;rw [if_pos hc] at h;cases h
  ·rename_i hc
   rw [if_neg hc] at h
   rw [cut_end r h]
theorem tw_ext (a s:Bs):(a++10 :: s).reverse.takeWhile (fun c=>decide (c ≠ 10))=s.reverse.takeWhile (fun c=>decide (c ≠ 10)):=by
 rw [List.reverse_append,List.reverse_cons,List.append_assoc]
 generalize s.reverse=t
 induction t with
 | nil=>simp
 | cons x r ih =>
  rw [List.cons_append,List.takeWhile_cons,List.takeWhile_cons]
  split
  ·rw [ih]
  ·rfl
theorem rows_end:∀ (f:Nat) (s:Bs),s.length<=f->(rowsNL s).length=1+s.count 10/\∃ h:s.count 10<(rowsNL s).length,(rowsNL s)[s.count 10].length=(s.reverse.takeWhile fun c=>decide (c ≠ 10)).length:=by
 intro f
 induction f with
 | zero =>
  intro s hf
  obtain rfl:s=[]:=List.eq_nil_of_length_eq_zero (by omega)
  have e:rowsNL []=[[]]:=by rw [rowsNL];rfl
  refine ⟨by rw [e];rfl,by rw [e];decide,by simp only [e];rfl⟩
 | succ f ih =>
  intro s hf
  by_cases hm:(cutNL s).2.2=true
  ·have e:rowsNL s=(cutNL s).1 :: rowsNL (cutNL s).2.1:=by rw [rowsNL,dif_pos hm]
   have es:=cutNL_eq s hm
   have hc:s.count 10=1+(cutNL s).2.1.count 10:=by
    conv=>lhs;rw [es]
    rw [List.count_append,List.count_cons]
    have:(cutNL s).1.count 10=0:=List.count_eq_zero.2 fun h=>cut_no s 10 h rfl
    rw [this];simp;omega
   obtain ⟨h1,h2,h3⟩:=ih (cutNL s).2.1 (by have:=cutNL_len s hm;omega)
   have hl:(rowsNL s).length=1+s.count 10:=by rw [e,List.length_cons,h1,hc];omega
   refine ⟨hl,by omega,?_⟩
   have ht:s.reverse.takeWhile (fun c=>decide (c ≠ 10))=(cutNL s).2.1.reverse.takeWhile (fun c=>decide (c ≠ 10)):=by
    conv=>lhs;rw [es]
    exact tw_ext _ _
   rw [ht,<- h3]
   have e2:(rowsNL s)[s.count 10]?=(rowsNL (cutNL s).2.1)[(cutNL s).2.1.count 10]?:=by rw [e,hc,Nat.add_comm 1,List.getElem?_cons_succ]
   rw [List.getElem?_eq_getElem (by omega),List.getElem?_eq_getElem h2] at e2
   injection e2 with e2
   rw [e2]
  ·have hm':(cutNL s).2.2=false:=by simpa using hm
   have e0:=cut_end s hm'
   have hno:=cut_no s
   rw [e0] at hno
   have e:rowsNL s=[s]:=by rw [rowsNL,dif_neg hm,e0]
   have hc:s.count 10=0:=List.count_eq_zero.2 fun h=>hno 10 h rfl
   refine ⟨by rw [e,hc];rfl,by rw [e,hc];exact Nat.succ_pos 0,?_⟩
   have ht:s.reverse.takeWhile (fun c=>decide (c ≠ 10))=s.reverse:=tw_all _ fun c hc=>decide_eq_true (hno c (by simpa using hc))
   rw [ht,List.length_reverse]
   simp only [e,hc]
   rfl
theorem end_in (s:Bs):InT (rowsNL s) (endOf s):=by
 obtain ⟨h1,h2,h3⟩:=rows_end s.length s lrf
 refine ⟨s.count 10,(rowsNL s)[s.count 10].length,h2,?_,Nat.le_refl _⟩
 rw [h3]
 unfold endOf
 congr 1
 ·omega
 ·omega
theorem first_in (s:Bs):InT (rowsNL s) (1,1):=⟨0,0,by rw [rowsNL];simp,rfl,Nat.zero_le _⟩
theorem refused_in {s:Bs} {f:Flt} (h:parseE s=.error f):InT (rowsNL s) f.1/\f.2 ≠ 0:=by
 refine ⟨?_,parse_code h⟩
 unfold parseE at h
 split at h
 ·injection h with h;subst h;exact first_in s
 ·rename_i hl
  split at h
  ·rename_i L C ht
   injection h with h;subst h
   obtain ⟨j,c,hj,e1,e2,e3⟩:=ls_bad_at s.length s 1 [] lrf ht
   subst e1 e2
   exact ⟨j,c,hj,by show (((1+j:Nat):Int),((c+1:Nat):Int))=(((j+1:Nat):Int),((c+1:Nat):Int));rw [Nat.add_comm 1 j],Nat.le_of_lt e3⟩
  ·rename_i o ho
   have hw:=tok_wok (by omega) ho
   have hr:=(tok_spec s o ho).1
   have hq:∀ l ∈ o,l ≠ []/\∀ w ∈ l,InW (rowsNL s) (wpos w):=fun l hl=>⟨(hw l hl).ne,word_in (hr l hl) (hw l hl)⟩
   have h1:=ok_lines (Q:=InW (rowsNL s)) o (S:=ps0P) ⟨fun g hg=>(by cases hg),fun g hg=>(by cases hg),fun x hx=>(by cases hx)⟩ hq
   cases hS:linesP ps0P o with
   | error g =>
    rw [hS] at h h1
    have e:g=f:=by injection h
    subst e
    exact h1.2.t
   | ok S =>
    rw [hS] at h h1
    have hk:=lines_ck o ck0 siv0 hS
    by_cases hn:S.inn=3
    ·by_cases hc:(checkM S.p).2=0
     ·exfalso
      simp [bind,Except.bind,needM,hn,hc,pure,Except.pure] at h
     ·have e:f=checkM S.p:=by simpa [bind,Except.bind,needM,hn,hc] using h.symm
      rw [e]
      exact (late_pos hk.1 hk.2 hn h1 hc).1.t
    ·have e:f=(endOf s,4):=by simpa [bind,Except.bind,needM,hn] using h.symm
     rw [e]
     exact end_in s
def nlJ (R:List Bs):Bs:=Lib.join R [10]
theorem nlJ_one (x:Bs):nlJ [x]=x:=Lib.join_one x [10]
theorem nlJ_two (x y:Bs) (r:List Bs):nlJ (x :: y :: r)=x++10 :: nlJ (y :: r):=by
 unfold nlJ
 rw [Lib.join_cons,Lib.join_cons]
 simp [Lib.joinTail,List.append_assoc]
theorem nlJ_cons (x:Bs) {R:List Bs} (h:R ≠ []):nlJ (x :: R)=x++10 :: nlJ R:=by
 cases R with
 | nil=>exact absurd rfl h
 | cons y r=>exact nlJ_two x y r
theorem nlJ_app:∀ (A:List Bs) {B:List Bs},A ≠ []->B ≠ []->nlJ (A++B)=nlJ A++10 :: nlJ B
 | [],B,h,_=>absurd rfl h
 | [x],B,_,hB=>by rw [nlJ_one];exact nlJ_cons x hB
 | x :: y :: r,B,_,hB=>by
  rw [List.cons_append,List.cons_append,nlJ_two,nlJ_two,<- List.cons_append,nlJ_app (y :: r) (by simp) hB,List.append_assoc,List.cons_append]
theorem cut_app:∀ (a b:Bs),cutNL (a++10 :: b)=if (cutNL a).2.2=true then ((cutNL a).1,(cutNL a).2.1++10 :: b,true) else (a,b,true)
 | [],b=>by simp [cutNL]
 | c :: r,b=>by
  rw [List.cons_append]
  unfold cutNL
  by_cases hc:c=10
  ·rw [if_pos hc,if_pos hc,if_pos rfl]
  ·rw [if_neg hc,if_neg hc,cut_app r b]
   by_cases h2:(cutNL r).2.2=true
   ·rw [if_pos h2,if_pos h2]
   ·rw [if_neg h2,if_neg h2]
theorem rows_app:∀ (f:Nat) (a b:Bs),a.length<=f->rowsNL (a++10 :: b)=rowsNL a++rowsNL b:=by
 intro f
 induction f with
 | zero =>
  intro a b hf
  obtain rfl:a=[]:=List.eq_nil_of_length_eq_zero (by omega)
  rw [rowsNL,cut_app,if_neg (by simp [cutNL]),dif_pos rfl]
  have e:rowsNL []=[[]]:=by rw [rowsNL];rfl
  rw [e];rfl
 | succ f ih =>
  intro a b hf
  by_cases hm:(cutNL a).2.2=true
  ·have e:rowsNL a=(cutNL a).1 :: rowsNL (cutNL a).2.1:=by rw [rowsNL,dif_pos hm]
   rw [rowsNL,cut_app,if_pos hm,dif_pos rfl]
   rw [e,List.cons_append,<- ih (cutNL a).2.1 b (by have:=cutNL_len a hm;omega)]
  ·have hm':(cutNL a).2.2=false:=by simpa using hm
   have e:rowsNL a=[a]:=by rw [rowsNL,dif_neg hm,cut_end a hm']
   rw [rowsNL,cut_app,if_neg hm,dif_pos rfl,e]
   rfl
theorem rows_ne (s:Bs):rowsNL s ≠ []:=by rw [rowsNL];simp
theorem rows_no:∀ (f:Nat) (s:Bs),s.length<=f->∀ r ∈ rowsNL s,∀ d ∈ r,d ≠ 10:=by
 intro f
 induction f with
 | zero =>
  intro s hf r hr
  obtain rfl:s=[]:=List.eq_nil_of_length_eq_zero (by omega)
  have e:rowsNL []=[[]]:=by rw [rowsNL];rfl
  rw [e,List.mem_singleton] at hr
  subst hr
  exact fun d hd=>by cases hd
 | succ f ih =>
  intro s hf r hr
  by_cases hm:(cutNL s).2.2=true
  ·have e:rowsNL s=(cutNL s).1 :: rowsNL (cutNL s).2.1:=by rw [rowsNL,dif_pos hm]
   rw [e] at hr
   rcases List.mem_cons.1 hr with rfl | hr
   ·exact cut_no s
   ·exact ih _ (by have:=cutNL_len s hm;omega) r hr
  ·have hm':(cutNL s).2.2=false:=by simpa using hm
   have e:rowsNL s=[s]:=by rw [rowsNL,dif_neg hm,cut_end s hm']
   rw [e,List.mem_singleton] at hr
   subst hr
   have:=cut_no r
   rwa [cut_end r hm'] at this
theorem rows_one {s:Bs} (h:∀ d ∈ s,d ≠ 10):rowsNL s=[s]:=by
 have hm:¬ (cutNL s).2.2=true:=fun hm=>by
  have e:=cutNL_eq s hm
  exact h 10 (by rw [e];simp) rfl
 rw [rowsNL,dif_neg hm,cut_end s (by simpa using hm)]
theorem rows_nlJ:∀ (R:List Bs),R ≠ []->(∀ r ∈ R,∀ d ∈ r,d ≠ 10)->rowsNL (nlJ R)=R
 | [],h,_=>absurd rfl h
 | [x],_,h=>by rw [nlJ_one];exact rows_one (h x (by simp))
 | x :: y :: r,_,h=>by
  rw [nlJ_two,rows_app x.length x _ lrf,rows_one (h x (by simp)),rows_nlJ (y :: r) (by simp) fun z hz=>h z (List.mem_cons_of_mem _ hz)]
  rfl
theorem nlJ_rows:∀ (f:Nat) (s:Bs),s.length<=f->nlJ (rowsNL s)=s:=by
 intro f
 induction f with
 | zero =>
  intro s hf
  obtain rfl:s=[]:=List.eq_nil_of_length_eq_zero (by omega)
  have e:rowsNL []=[[]]:=by rw [rowsNL];rfl
  rw [e];exact nlJ_one []
 | succ f ih =>
  intro s hf
  by_cases hm:(cutNL s).2.2=true
  ·have e:rowsNL s=(cutNL s).1 :: rowsNL (cutNL s).2.1:=by rw [rowsNL,dif_pos hm]
   rw [e,nlJ_cons _ (rows_ne _),ih _ (by have:=cutNL_len s hm;omega)]
   exact (cutNL_eq s hm).symm
  ·have hm':(cutNL s).2.2=false:=by simpa using hm
   have e:rowsNL s=[s]:=by rw [rowsNL,dif_neg hm,cut_end s hm']
   rw [e,nlJ_one]
theorem ls_app:∀ (f:Nat) (a b:Bs) (n:Nat) (out:List (List Wd)),a.length<=f->ls n (a++10 :: b) out=match ls n a out with | .error e => .error e | .ok o=>ls (n+(rowsNL a).length) b o:=by
 intro f
 induction f with
 | zero =>
  intro a b n out hf
  obtain rfl:a=[]:=List.eq_nil_of_length_eq_zero (by omega)
  have e:rowsNL []=[[]]:=by rw [rowsNL];rfl
  have e2:ls n [] out=.ok out:=by rw [ls];simp [cutNL,lt,flushW,addL]
  rw [ls,cut_app,if_neg (by simp [cutNL]),e2,e]
  simp [lt,flushW,addL]
 | succ f ih =>
  intro a b n out hf
  by_cases hm:(cutNL a).2.2=true
  ·have e:rowsNL a=(cutNL a).1 :: rowsNL (cutNL a).2.1:=by rw [rowsNL,dif_pos hm]
   rw [ls,cut_app,if_pos hm,e]
   conv=>rhs;rw [ls]
   dsimp only
   cases h1:lt n (cutNL a).1 0 none [] with
   | error i=>rfl
   | ok ws =>
    dsimp only
    rw [dif_pos rfl,dif_pos hm,ih (cutNL a).2.1 b (n+1) _ (by have:=cutNL_len a hm;omega),List.length_cons]
    rw [show n+1+(rowsNL (cutNL a).2.1).length=n+((rowsNL (cutNL a).2.1).length+1) by omega]
  ·have hm':(cutNL a).2.2=false:=by simpa using hm
   have ea:=cut_end a hm'
   have e:rowsNL a=[a]:=by rw [rowsNL,dif_neg hm,ea]
   rw [ls,cut_app,if_neg hm,e]
   conv=>rhs;rw [ls,ea]
   dsimp only
   cases h1:lt n a 0 none [] with
   | error i=>rfl
   | ok ws =>
    dsimp only
    rw [dif_pos rfl,dif_neg hm]
    rfl
theorem tok_app (a b:Bs):tok (a++10 :: b)=match tok a with | .error e => .error e | .ok o=>ls (1+(rowsNL a).length) b o:=ls_app a.length a b 1 [] lrf
theorem lt_okn (n m:Nat):∀ (s:Bs) (i:Nat) (cur cur':Option (Bs × Nat)) (acc acc':List Wd) {ws:List Wd},lt n s i cur acc=.ok ws->∃ ws',lt m s i cur' acc'=.ok ws'
 | [],i,cur,cur',acc,acc',ws,h=>⟨_,by unfold lt;rfl⟩
 | c :: r,i,cur,cur',acc,acc',ws,h=>by
  unfold lt at h ⊢
  split
  ·exact ⟨_,rfl⟩
  ·rename_i h1
   rw [if_neg h1] at h
   split
   ·rename_i h2
    rw [if_pos h2] at h
    exact lt_okn n m r _ _ _ _ _ h
   ·rename_i h2
    rw [if_neg h2] at h
    split
    ·rename_i h3;rw [if_pos h3] at h;cases h
    ·rename_i h3;rw [if_neg h3] at h;exact lt_okn n m r _ _ _ _ _ h
theorem ls_okn:∀ (f:Nat) (n m:Nat) (s:Bs) (out out':List (List Wd)) {o:List (List Wd)},s.length<=f->ls n s out=.ok o->∃ o',ls m s out'=.ok o':=by
 intro f
 induction f with
 | zero =>
  intro n m s out out' o hf h
  obtain rfl:s=[]:=List.eq_nil_of_length_eq_zero (by omega)
  exact ⟨out',by rw [ls];simp [cutNL,lt,flushW,addL]⟩
 | succ f ih =>
  intro n m s out out' o hf h
  rw [ls] at h ⊢
  cases h1:lt n (cutNL s).1 0 none [] with
  | error i=>rw [h1] at h;cases h
  | ok ws =>
   rw [h1] at h
   obtain ⟨ws',h2⟩:=lt_okn n m _ _ none none [] [] h1
   rw [h2]
   dsimp only at h ⊢
   by_cases hm:(cutNL s).2.2=true
   ·rw [dif_pos hm] at h ⊢
    exact ih _ _ _ _ _ (by have:=cutNL_len s hm;omega) h
   ·rw [dif_neg hm]
    exact ⟨_,rfl⟩
theorem linesP_app:∀ (a b:List (List Wd)) (S:PS),linesP S (a++b)=match linesP S a with | .error e => .error e | .ok S'=>linesP S' b
 | [],b,S=>rfl
 | l :: r,b,S=>by
  rw [List.cons_append,linesP_cons,linesP_cons]
  cases lineP S l with
  | error e=>rfl
  | ok S1=>exact linesP_app r b S1
section
variable {Q:Int × Int->Prop} {S:PS}
theorem okE.any {α:Type} {R:α->Prop} {x:PE α} (h:okE Q R x):okE Q (fun _=>True) x:=by cases x with | error e=>exact h | ok a=>exact trivial
theorem er_line {l:List Wd} (hl:l ≠ []) (h:∀ w ∈ l,Q (wpos w)):okE Q (fun _=>True) (lineP S l):=by
 cases l with
 | nil=>exact absurd rfl hl
 | cons a r =>
  have ha:=h a (List.mem_cons_self ..)
  have hr:∀ w ∈ r,Q (wpos w):=fun w hw=>h w (List.mem_cons_of_mem _ hw)
  unfold lineP
  dsimp only
  split
  ·unfold declareP
   split
   ·exact (ok_number ha hr).bind fun a k1=>(ok_end k1).bind fun _ _=>trivial
   split
   ·exact (okE.need (fun _=>by decide) ha).bind fun _ _=>(ok_fresh ha hr).bind fun a k1=>(ok_end k1).bind fun _ _=>trivial
   split
   ·exact (okE.need (fun _=>by decide) ha).bind fun _ _=>(ok_fresh ha hr).bind fun a k1=>(ok_number ha k1).bind fun b k2=>(ok_end k2).bind fun _ _=>trivial
   split
   ·exact (okE.need (fun _=>by decide) ha).bind fun _ _=>(ok_fresh ha hr).bind fun a k1=>(ok_params ha _ _ k1).bind fun _ _=>trivial
   split
   ·exact (ok_end hr).bind fun _ _=>trivial
   ·exact ⟨by show (4:Int) ≠ 0;decide,ha⟩
  split
  ·exact ⟨by show (4:Int) ≠ 0;decide,ha⟩
  ·unfold instructP
   split
   ·exact (ok_end hr).bind fun _ _=>trivial
   ·refine (okE.need (fun _=>by decide) ha).bind fun _ _=>?_
    refine (ok_instr ha ha hr).bind ?_
    rintro ⟨x,l1,s1,r1⟩ k1
    exact (ok_end k1).bind fun _ _=>trivial
theorem er_lines:∀ (o:List (List Wd)) {S:PS},(∀ l ∈ o,l ≠ []/\∀ w ∈ l,Q (wpos w))->okE Q (fun _=>True) (linesP S o)
 | [],S,h=>trivial
 | l :: r,S,h=>by
  unfold linesP
  refine (er_line (h l (List.mem_cons_self ..)).1 (h l (List.mem_cons_self ..)).2).bind ?_
  intro S' h'
  exact er_lines r fun k hk=>h k (List.mem_cons_of_mem _ hk)
end
theorem line_three {S S':PS} {l:List Wd} (h:lineP S l=.ok S') (h3:S'.inn=3):S'.p=S.p:=by
 cases l with
 | nil=>cases h
 | cons w r =>
  unfold lineP at h
  dsimp only at h
  split at h
  ·rename_i h0
   unfold declareP at h
   split at h
   ·obtain ⟨a,h1,h⟩:=bindE h;obtain ⟨b,h2,h⟩:=bindE h;rw [<- pureE h] at h3;exact absurd (h0.symm.trans h3) (by decide)
   split at h
   ·obtain ⟨u,h0',h⟩:=bindE h;obtain ⟨a,h1,h⟩:=bindE h;obtain ⟨b,h2,h⟩:=bindE h;rw [<- pureE h] at h3;exact absurd (h0.symm.trans h3) (by decide)
   split at h
   ·obtain ⟨u,h0',h⟩:=bindE h;obtain ⟨a,h1,h⟩:=bindE h;obtain ⟨a2,h12,h⟩:=bindE h;obtain ⟨b,h2,h⟩:=bindE h;rw [<- pureE h] at h3;exact absurd (h0.symm.trans h3) (by decide)
   split at h
   ·obtain ⟨u,h0',h⟩:=bindE h;obtain ⟨a,h1,h⟩:=bindE h;obtain ⟨b,h2,h⟩:=bindE h;rw [<- pureE h] at h3;exact absurd (show (1:Nat)=3 from h3) (by decide)
   split at h
   ·obtain ⟨b,h2,h⟩:=bindE h;rw [<- pureE h] at h3;exact absurd (show (2:Nat)=3 from h3) (by decide)
   ·cases h
  split at h
  ·cases h
  ·rename_i hn
   unfold instructP at h
   split at h
   ·obtain ⟨u,h0,h⟩:=bindE h;rw [<- pureE h]
   ·obtain ⟨u,h0,h⟩:=bindE h;obtain ⟨a,h1,h⟩:=bindE h;obtain ⟨b,h2,h⟩:=bindE h;rw [<- pureE h] at h3;exact absurd h3 hn
theorem late_above {s:Bs} {o:List (List Wd)} {S:PS} (hs:s.length<=65536) (ht:tok s=.ok o) (hS:linesP ps0P o=.ok S) (hn:S.inn=3) (hc:(checkM S.p).2 ≠ 0):(checkM S.p).1.1<((rowsNL s).length:Int):=by
 have hw:=tok_wok hs ht
 obtain ⟨hr,hu⟩:=tok_spec s o ht
 have hk:=lines_ck o ck0 siv0 hS
 rcases List.eq_nil_or_concat o with rfl | ⟨o',z,rfl⟩
 ·rw [<- pureE (show pure ps0P=_ from hS)] at hn;cases hn
 rw [List.concat_eq_append] at *
 rw [linesP_app] at hS
 cases h1:linesP ps0P o' with
 | error e=>rw [h1] at hS;cases hS
 | ok S' =>
  rw [h1] at hS
  dsimp only at hS
  rw [linesP_cons] at hS
  cases h2:lineP S' z with
  | error e=>rw [h2] at hS;cases hS
  | ok S2 =>
   rw [h2] at hS
   have e:S2=S:=pureE (show pure S2=_ from hS)
   subst e
   have e3:=line_three h2 hn
   have hz:=hw z (by simp)
   obtain ⟨w0,zr,ez⟩:∃ w0 zr,z=w0 :: zr:=by
    cases z with
    | nil=>exact absurd rfl hz.ne
    | cons a r=>exact ⟨a,r,rfl⟩
   have hw0:w0 ∈ z:=by rw [ez];exact List.mem_cons_self ..
   obtain ⟨j,hj,hrz⟩:=(hr z (by simp)).at'
   have hl:=(hrz w0 hw0).1
   have hup:∀ l ∈ o',∀ w ∈ l,w.2.1<w0.2.1:=fun l hl w hw=>(List.pairwise_append.1 hu).2.2 l hl z (by simp) w hw w0 hw0
   have hq:=ok_lines (Q:=fun q=>q.1<(w0.2.1:Int)) o' (S:=ps0P) ⟨fun g hg=>(by cases hg),fun g hg=>(by cases hg),fun x hx=>(by cases hx)⟩ (fun l hl=>⟨(hw l (by simp [hl])).ne,fun w hw'=>by
    have:=hup l hl w hw'
    show ((w.2.1:Nat):Int)<_
    omega⟩)
   rw [h1] at hq
   have hq':PQ (fun q=>q.1<(w0.2.1:Int)) S2.p:=by rw [e3];exact hq
   have:=(late_pos hk.1 hk.2 hn hq' hc).1
   have hl':w0.2.1=1+j:=hl
   omega
theorem prefix_keep {s a:Bs} {L:Nat} {C e:Int} (hs:s.length<=1500) (ha:a.length<=300) (hp:parseE s=.error (((L:Int),C),e)) (he:e=4\/e=3\/e=8\/e=5) {o oa:List (List Wd)} (ht:tok s=.ok o) (hta:tok a=.ok oa) (h1:1<=L) (hL:L<=(rowsNL s).length) :
  (e ≠ 4->parseE (nlJ ((rowsNL s).take L))=.error (((L:Int),C),e))/\(parseE (nlJ ((rowsNL s).take L))=.error (((L:Int),C),e)->((L:Int),C) ≠ endOf (nlJ ((rowsNL s).take L))->parseE (nlJ ((rowsNL s).take L)++10 :: a)=.error (((L:Int),C),e)):=by
 obtain ⟨R,hR⟩:∃ R,(rowsNL s).take L=R:=⟨_,rfl⟩
 rw [hR]
 have hRl:R.length=L:=by rw [<- hR,List.length_take];omega
 have hRn:R ≠ []:=fun h=>by rw [h] at hRl;simp at hRl;omega
 have hno:=rows_no s.length s lrf
 have hRr:rowsNL (nlJ R)=R:=rows_nlJ R hRn fun r hr=>hno r (by rw [<- hR] at hr;exact List.mem_of_mem_take hr)
 have hsp:∃ o1 o2,tok (nlJ R)=.ok o1/\o=o1++o2/\(∀ l ∈ o2,∀ w ∈ l,L<w.2.1)/\(nlJ R).length<=s.length:=by
  by_cases hLe:L=(rowsNL s).length
  ·have e1:nlJ R=s:=by rw [<- hR,hLe,List.take_length,nlJ_rows s.length s lrf]
   rw [e1]
   exact ⟨o,[],ht,by simp,fun l hl=>(by cases hl),Nat.le_refl _⟩
  ·have hD:(rowsNL s).drop L ≠ []:=fun h=>by have:=congrArg List.length h;rw [List.length_drop] at this;simp at this;omega
   have e1:s=nlJ R++10 :: nlJ ((rowsNL s).drop L):=by
    rw [<- nlJ_app R hRn hD,<- hR,List.take_append_drop,nlJ_rows s.length s lrf]
   rw [e1,tok_app] at ht
   cases h2:tok (nlJ R) with
   | error q=>rw [h2] at ht;cases ht
   | ok o1 =>
    rw [h2,hRr,hRl] at ht
    dsimp only at ht
    obtain ⟨o2,e2,e3,-⟩:=ls_spec _ _ _ _ _ lrf ht
    refine ⟨o1,o2,rfl,e2,fun l hl w hw=>?_,?_⟩
    ·obtain ⟨k,hk,h5⟩:=(e3 l hl).line
     rw [h5 w hw];omega
    ·conv=>rhs;rw [e1]
     rw [List.length_append];omega
 obtain ⟨o1,o2,t1,eo,hup,hlen⟩:=hsp
 have hle:(nlJ R).length<=65536:=by omega
 have hws:=tok_wok (by omega) ht
 have hw1:=tok_wok hle t1
 obtain ⟨oa',t2⟩:=ls_okn a.length 1 (1+(rowsNL (nlJ R)).length) a [] o1 lrf hta
 obtain ⟨o3,e3,-,-⟩:=ls_spec _ _ _ _ _ lrf t2
 have t3:tok (nlJ R++10 :: a)=.ok oa':=by rw [tok_app,t1];exact t2
 have hla:(nlJ R++10 :: a).length<=65536:=by rw [List.length_append,List.length_cons];omega
 unfold parseE at hp ⊢
 rw [if_neg (by omega),ht] at hp
 rw [if_neg (by omega),if_neg (by omega),t1,t3]
 dsimp only at hp ⊢
 rw [eo] at hp
 rw [linesP_app] at hp
 rw [e3,linesP_app]
 cases h2:linesP ps0P o1 with
 | error g =>
  rw [h2] at hp
  have eg:g=(((L:Int),C),e):=by injection hp
  subst eg
  exact ⟨fun _=>rfl,fun _ _=>rfl⟩
 | ok S1 =>
  rw [h2] at hp
  dsimp only at hp
  refine ⟨fun h4=>?_,fun hq hne=>?_⟩
  ·exfalso
   have her:=er_lines (Q:=fun q=>(L:Int)<q.1) o2 (S:=S1) fun l hl=>⟨(hws l (by rw [eo];simp [hl])).ne,fun w hw=>by
    have:=hup l hl w hw
    show _<((w.2.1:Nat):Int)
    omega⟩
   cases h5:linesP S1 o2 with
   | error g =>
    rw [h5] at hp her
    have eg:g=(((L:Int),C),e):=by injection hp
    subst eg
    exact absurd her.2 (by show ¬ ((L:Int)<(L:Int));omega)
   | ok S =>
    rw [h5] at hp
    have hS:linesP ps0P o=.ok S:=by rw [eo,linesP_app,h2];exact h5
    have hk:=lines_ck o ck0 siv0 hS
    by_cases hn:S.inn=3
    ·by_cases hc:(checkM S.p).2=0
     ·simp [bind,Except.bind,needM,hn,hc,pure,Except.pure] at hp
     ·have e1:(((L:Int),C),e)=checkM S.p:=by
       have h9:=hp.symm
       simp [bind,Except.bind,needM,hn,hc] at h9
       exact Prod.ext h9.1 h9.2
      have hl:=(late_pos (Q:=fun _=>True) hk.1 hk.2 hn ⟨fun _ _=>trivial,fun _ _ _ _=>trivial,fun _ _=>trivial⟩ hc).2
      rw [<- e1] at hl
      unfold lateC at hl
      dsimp only at hl
      omega
    ·have e1:(((L:Int),C),e)=(endOf s,4):=by simpa [bind,Except.bind,needM,hn] using hp.symm
     injection e1 with _ e1
     exact h4 e1
  ·exfalso
   have hk:=lines_ck o1 ck0 siv0 h2
   by_cases hn:S1.inn=3
   ·by_cases hc:(checkM S1.p).2=0
    ·simp [bind,Except.bind,needM,hn,hc,pure,Except.pure] at hq
    ·have e1:(((L:Int),C),e)=checkM S1.p:=by
      have h9:=hq.symm
      simp [bind,Except.bind,needM,hn,hc] at h9
      exact Prod.ext h9.1 h9.2
     have:=late_above hle t1 h2 hn hc
     rw [<- e1,hRr,hRl] at this
     exact absurd this (by show ¬ ((L:Int)<(L:Int));omega)
   ·have e1:(((L:Int),C),e)=(endOf (nlJ R),4):=by simpa [bind,Except.bind,needM,hn] using hq.symm
    injection e1 with e1 _
    exact hne e1
theorem short_len {s:Bs} {L:Nat} (h1:1<=L) (hL:L<=(rowsNL s).length):(nlJ ((rowsNL s).take L)).length<=s.length:=by
 by_cases hLe:L=(rowsNL s).length
 ·rw [hLe,List.take_length,nlJ_rows s.length s lrf];exact Nat.le_refl _
 ·have hD:(rowsNL s).drop L ≠ []:=fun h=>by have:=congrArg List.length h;rw [List.length_drop] at this;simp at this;omega
  have hT:(rowsNL s).take L ≠ []:=fun h=>by have:=congrArg List.length h;rw [List.length_take,List.length_nil] at this;omega
  have e1:nlJ ((rowsNL s).take L)++10 :: nlJ ((rowsNL s).drop L)=s:=by
   rw [<- nlJ_app _ hT hD,List.take_append_drop,nlJ_rows s.length s lrf]
  conv=>rhs;rw [<- e1]
  rw [List.length_append];omega
end Go.Proofs.YtoofbgoeipijcaaGreatDoor
