/-
 Reading programs: where what is refused stands. No program in sight.
-/
import Derived.Test.YtbijamcoibonkaaDoorBSPsP
import Derived.Test.YtbijamcoibonkaaDoorBSPyA
import Derived.Lib.IndexMore
import Derived.Lib.IndexBytes
import Derived.Lib.IndexAny
import Derived.Test.YtbijamcoibonkaaDoorBSPnM
namespace Go.Proofs.YtbijamcoibonkaaDoor
set_option linter.unusedSimpArgs false
set_option linter.unusedVariables false
open Go.RowKit Go.Shelf
def okE {α:Type} (Q:Int × Int→Prop) (R:α→Prop) (x:PE α):Prop:=match x with | .error f=>f.2 ≠ 0∧Q f.1 | .ok a=>R a
theorem okE.bind {α β:Type} {Q:Int × Int→Prop} {R:α→Prop} {R':β→Prop} {x:PE α} {g:α→PE β} (h:okE Q R x) (hg:∀ a,R a→okE Q R' (g a)):okE Q R' (x >>= g):=by
 cases x with
 | error f=>exact h
 | ok a=>exact hg a h
theorem okE.ok {α:Type} {Q:Int × Int→Prop} {R:α→Prop} {a:α} (h:R a):okE Q R (pure a:PE α):=h
section
variable {Q:Int × Int→Prop} {f:Int × Int} {ws:List Wd}
end
section
variable {Q:Int × Int→Prop} {f:Int × Int} {ws:List Wd} {S:PS}
end
theorem again {l:Bs} {p:Pg} (h:parseE l = .ok p) (hl:l.length≤2000):printM p=(textT (linesT p),0)∧∃ r,parseE (textT (linesT p)) = .ok r∧bareP r=bareP p∧printM r=(textT (linesT p),0):=by
 obtain ⟨hc,hk,_⟩:=parse_cd h
 have hs:=text_short h
 have hp:printM p=(textT (linesT p),0):=by unfold printM;rw [if_neg (by rw [hk];decide),if_neg (by omega)]
 obtain ⟨r,hr,hb⟩:=parse_print p hk hc.num (by omega)
 obtain ⟨hcr,hkr,_⟩:=parse_cd hr
 refine ⟨hp,r,hr,hb,?_⟩
 have e:=(text_iff r p hkr hk hcr.num hc.num).2 hb
 unfold printM
 rw [if_neg (by rw [hkr];decide),e,if_neg (by omega)]
section
variable {f:Int × Int} {ws:List Wd}
end
section
variable {ch ar:List Bs}
end
section
variable {Q:Int × Int→Prop} {p:Pg}
end
def InW (rows:List Bs) (q:Int × Int):Prop:=∃ j c,∃ h:j<rows.length,q=(((j+1:Nat):Int),((c+1:Nat):Int))∧c<rows[j].length
def InT (rows:List Bs) (q:Int × Int):Prop:=∃ j c,∃ h:j<rows.length,q=(((j+1:Nat):Int),((c+1:Nat):Int))∧c≤rows[j].length
theorem InW.t {rows:List Bs} {q:Int × Int} (h:InW rows q):InT rows q:=by
 obtain ⟨j,c,h1,h2,h3⟩:=h
 exact ⟨j,c,h1,h2,Nat.le_of_lt h3⟩
theorem word_in {rows:List Bs} {ws:List Wd} (h:RowOk rows 1 ws) (hw:WOk ws):∀ x ∈ ws,InW rows (wpos x):=by
 intro x hx
 obtain ⟨j,hj,hr⟩:=h.at'
 obtain ⟨h1,h2,h3⟩:=hr x hx
 have hne:=(hw.each x hx).1
 refine ⟨j,x.2.2 - 1,hj,?_,?_⟩
 ·unfold wpos
  rw [h1]
  congr 1
  ·show ((1+j:Nat):Int)=((j+1:Nat):Int);omega
  ·show ((x.2.2:Nat):Int)=((x.2.2 - 1+1:Nat):Int);omega
 ·have:=h3.length_le
  have h4:0<x.1.length:=List.length_pos_iff.2 hne
  rw [List.length_drop] at this
  omega
theorem lt_bad_at (n:Nat):∀ (s:Bs) (i:Nat) (cur:Option (Bs × Nat)) (acc:List Wd) {j:Nat},lt n s i cur acc = .error j→i≤j∧j<i+s.length
 | [],i,cur,acc,j,h=>by unfold lt at h;cases h
 | c :: r,i,cur,acc,j,h=>by
  unfold lt at h
  rw [List.length_cons]
  split at h
  ·cases h
  split at h
  ·have:=lt_bad_at n r (i+1) _ _ h;omega
  split at h
  ·injection h with h;omega
  ·have:=lt_bad_at n r (i+1) _ _ h;omega
theorem ls_bad_at:∀ (f:Nat) (s:Bs) (n:Nat) (out:List (List Wd)) {L C:Nat},s.length≤f→ls n s out = .error (L,C)→∃ j c,∃ h:j<(rowsNL s).length,L=n+j∧C=c+1∧c<(rowsNL s)[j].length:=by
 intro f
 induction f with
 | zero =>
  intro s n out L C hf h
  obtain rfl:s=[]:=List.eq_nil_of_length_eq_zero (by omega)
  rw [ls] at h
  simp [cutNL,lt,flushW,addL] at h
 | succ f ih =>
  intro s n out L C hf h
  rw [ls] at h
  cases he:lt n (cutNL s).1 0 none [] with
  | error i =>
   rw [he] at h
   injection h with h;injection h with h1 h2
   have:=lt_bad_at n _ _ _ _ he
   refine ⟨0,i,by rw [rowsNL];simp,by omega,by omega,?_⟩
   obtain ⟨R,e0⟩:∃ R,rowsNL s=(cutNL s).1 :: R:=⟨_,by rw [rowsNL]⟩
   have e:(rowsNL s)[0]'(by rw [rowsNL];simp)=(cutNL s).1:=by simp only [e0,List.getElem_cons_zero]
   rw [e];omega
  | ok ws =>
   rw [he] at h
   dsimp only at h
   split at h
   ·rename_i hm
    obtain ⟨j,c,hj,e1,e2,e3⟩:=ih _ _ _ (by have:=cutNL_len s hm;omega) h
    have e:rowsNL s=(cutNL s).1 :: rowsNL (cutNL s).2.1:=by rw [rowsNL,dif_pos hm]
    have hj':j+1<(rowsNL s).length:=by rw [e];simpa using hj
    refine ⟨j+1,c,hj',by omega,e2,?_⟩
    have:(rowsNL s)[j+1]=(rowsNL (cutNL s).2.1)[j]:=by simp only [e,List.getElem_cons_succ]
    rw [this];exact e3
   ·cases h
theorem cut_no:∀ (s:Bs),∀ d ∈ (cutNL s).1,d ≠ 10
 | [],d,hd=>by cases hd
 | c :: r,d,hd=>by
  unfold cutNL at hd
  split at hd
  ·cases hd
  ·rename_i hc
   rcases List.mem_cons.1 hd with e | hd
   ·rw [e];exact hc
   ·exact cut_no r d hd
theorem cut_end:∀ (s:Bs),(cutNL s).2.2=false→(cutNL s).1=s
 | [],_=>rfl
 | c :: r,h=>by
  unfold cutNL at h ⊢
  split
  ·rename_i hc;rw [if_pos hc] at h;cases h
  ·rename_i hc
   rw [if_neg hc] at h
   rw [cut_end r h]
theorem tw_ext (a s:Bs):(a++10 :: s).reverse.takeWhile (fun c=>decide (c ≠ 10))=s.reverse.takeWhile (fun c=>decide (c ≠ 10)):=by
 rw [List.reverse_append,List.reverse_cons,List.append_assoc]
 generalize s.reverse=t
 induction t with
 | nil=>simp
 | cons x r ih =>
  rw [List.cons_append,List.takeWhile_cons,List.takeWhile_cons]
  split
  ·rw [ih]
  ·rfl
theorem rows_end:∀ (f:Nat) (s:Bs),s.length≤f→(rowsNL s).length=1+s.count 10∧∃ h:s.count 10<(rowsNL s).length,(rowsNL s)[s.count 10].length=(s.reverse.takeWhile fun c=>decide (c ≠ 10)).length:=by
 intro f
 induction f with
 | zero =>
  intro s hf
  obtain rfl:s=[]:=List.eq_nil_of_length_eq_zero (by omega)
  have e:rowsNL []=[[]]:=by rw [rowsNL];rfl
  refine ⟨by rw [e];rfl,by rw [e];decide,by simp only [e];rfl⟩
 | succ f ih =>
  intro s hf
  by_cases hm:(cutNL s).2.2=true
  ·have e:rowsNL s=(cutNL s).1 :: rowsNL (cutNL s).2.1:=by rw [rowsNL,dif_pos hm]
   have es:=cutNL_eq s hm
   have hc:s.count 10=1+(cutNL s).2.1.count 10:=by
    conv=>lhs;rw [es]
    rw [List.count_append,List.count_cons]
    have:(cutNL s).1.count 10=0:=List.count_eq_zero.2 fun h=>cut_no s 10 h rfl
    rw [this];simp;omega
   obtain ⟨h1,h2,h3⟩:=ih (cutNL s).2.1 (by have:=cutNL_len s hm;omega)
   have hl:(rowsNL s).length=1+s.count 10:=by rw [e,List.length_cons,h1,hc];omega
   refine ⟨hl,by omega,?_⟩
   have ht:s.reverse.takeWhile (fun c=>decide (c ≠ 10))=(cutNL s).2.1.reverse.takeWhile (fun c=>decide (c ≠ 10)):=by
    conv=>lhs;rw [es]
    exact tw_ext _ _
   rw [ht,← h3]
   have e2:(rowsNL s)[s.count 10]?=(rowsNL (cutNL s).2.1)[(cutNL s).2.1.count 10]?:=by rw [e,hc,Nat.add_comm 1,List.getElem?_cons_succ]
   rw [List.getElem?_eq_getElem (by omega),List.getElem?_eq_getElem h2] at e2
   injection e2 with e2
   rw [e2]
  ·have hm':(cutNL s).2.2=false:=by simpa using hm
   have e0:=cut_end s hm'
   have hno:=cut_no s
   rw [e0] at hno
   have e:rowsNL s=[s]:=by rw [rowsNL,dif_neg hm,e0]
   have hc:s.count 10=0:=List.count_eq_zero.2 fun h=>hno 10 h rfl
   refine ⟨by rw [e,hc];rfl,by rw [e,hc];exact Nat.succ_pos 0,?_⟩
   have ht:s.reverse.takeWhile (fun c=>decide (c ≠ 10))=s.reverse:=tw_all _ fun c hc=>decide_eq_true (hno c (by simpa using hc))
   rw [ht,List.length_reverse]
   simp only [e,hc]
   rfl
theorem end_in (s:Bs):InT (rowsNL s) (endOf s):=by
 obtain ⟨h1,h2,h3⟩:=rows_end s.length s (Nat.le_refl _)
 refine ⟨s.count 10,(rowsNL s)[s.count 10].length,h2,?_,Nat.le_refl _⟩
 rw [h3]
 unfold endOf
 congr 1
 ·omega
 ·omega
theorem first_in (s:Bs):InT (rowsNL s) (1,1):=⟨0,0,by rw [rowsNL];simp,rfl,Nat.zero_le _⟩
end Go.Proofs.YtbijamcoibonkaaDoor
