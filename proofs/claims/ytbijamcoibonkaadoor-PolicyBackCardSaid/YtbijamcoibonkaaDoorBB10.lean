/-
 Words made of bytes, joined by blanks, and a byte that stands in no text: where the text is refused. No program in sight.
-/
import Derived.Test.YtbijamcoibonkaaDoorBB6
import Derived.Lib.Join
import Derived.Test.YtbijamcoibonkaaDoorBSTkL
import Derived.Lib.Split
import Derived.Lib.SplitLaws
namespace Go.Proofs.YtbijamcoibonkaaDoor
set_option linter.unusedSimpArgs false
set_option linter.unusedVariables false
def pcN (n:Nat):Nat:=if 33+n % 94=35 then 36 else 33+n % 94
def pw (c:UInt8):Bs:=List.replicate (1+c.toNat / 94) (UInt8.ofNat (pcN c.toNat))
theorem lt_cons (n:Nat) (c:UInt8) (r:Bs) (i:Nat) (cur:Option (Bs × Nat)) (acc:List Wd):lt n (c :: r) i cur acc=if c=35 then .ok (flushW n cur acc) else if sepB c=true then lt n r (i+1) none (flushW n cur acc) else if badB c=true then .error i else lt n r (i+1) (grow c i cur) acc:=rfl
theorem cutNL_none:∀ s:Bs,(∀ d ∈ s,d ≠ 10)→cutNL s=(s,[],false)
 | [],_=>rfl
 | c :: r,h=>by
  unfold cutNL
  rw [if_neg (h c (by simp)),cutNL_none r fun d hd=>h d (by simp [hd])]
theorem cutNL_at:∀ (s r:Bs),(∀ d ∈ s,d ≠ 10)→cutNL (s++10 :: r)=(s,r,true)
 | [],r,_=>by simp [cutNL]
 | c :: s,r,h=>by
  rw [List.cons_append]
  unfold cutNL
  rw [if_neg (h c (by simp)),cutNL_at s r fun d hd=>h d (by simp [hd])]
def rowsNL (s:Bs):List Bs:=(cutNL s).1 :: (if h:(cutNL s).2.2=true then rowsNL (cutNL s).2.1 else [])
termination_by s.length
decreasing_by exact cutNL_len s h
def OkW (n:Nat) (line:Bs) (x:Wd):Prop:=x.2.1=n∧1≤x.2.2∧x.1 <+: line.drop (x.2.2 - 1)
structure LtI (n:Nat) (line pre:Bs) (cur:Option (Bs × Nat)) (acc:List Wd):Prop where
 ok:∀ x ∈ acc,OkW n line x
 inc:acc.Pairwise (fun a b=>a.2.2<b.2.2)
 le:∀ x ∈ acc,x.2.2≤pre.length
 cur:∀ u c,cur=some (u,c)→1≤c∧c≤pre.length∧pre.drop (c - 1)=u∧∀ x ∈ acc,x.2.2<c
theorem LtI.flush {n:Nat} {line pre t:Bs} {cur:Option (Bs × Nat)} {acc:List Wd} (h:LtI n line pre cur acc) (hl:line=pre++t):(∀ x ∈ flushW n cur acc,OkW n line x)∧(flushW n cur acc).Pairwise (fun a b=>a.2.2<b.2.2)∧∀ x ∈ flushW n cur acc,x.2.2≤pre.length:=by
 cases cur with
 | none=>exact ⟨h.ok,h.inc,h.le⟩
 | some q =>
  obtain ⟨u,c⟩:=q
  obtain ⟨h1,h2,h3,h4⟩:=h.cur u c rfl
  refine ⟨fun x hx=>?_,?_,fun x hx=>?_⟩
  ·rcases List.mem_append.1 hx with hx | hx
   ·exact h.ok x hx
   ·obtain rfl:=List.mem_singleton.1 hx
    refine ⟨rfl,h1,?_⟩
    rw [hl,List.drop_append_of_le_length (by show c - 1≤_;omega),show (c:Nat) - 1=c - 1 from rfl]
    show u <+: pre.drop (c - 1)++t
    rw [h3];exact List.prefix_append _ _
  ·refine List.pairwise_append.2 ⟨h.inc,List.pairwise_singleton _ _,fun a ha b hb=>?_⟩
   obtain rfl:=List.mem_singleton.1 hb
   exact h4 a ha
  ·rcases List.mem_append.1 hx with hx | hx
   ·exact h.le x hx
   ·obtain rfl:=List.mem_singleton.1 hx
    exact h2
theorem LtI.sep {n:Nat} {line pre t:Bs} {cur:Option (Bs × Nat)} {acc:List Wd} {c:UInt8} (h:LtI n line pre cur acc) (hl:line=pre++t):LtI n line (pre++[c]) none (flushW n cur acc):=by
 obtain ⟨h1,h2,h3⟩:=h.flush hl
 exact ⟨h1,h2,fun x hx=>by have:=h3 x hx;simp;omega,fun u c e=>by cases e⟩
theorem LtI.grow {n:Nat} {line pre:Bs} {cur:Option (Bs × Nat)} {acc:List Wd} {c:UInt8} (h:LtI n line pre cur acc):LtI n line (pre++[c]) (grow c pre.length cur) acc:=by
 refine ⟨h.ok,h.inc,fun x hx=>by have:=h.le x hx;simp;omega,?_⟩
 cases cur with
 | none =>
  intro u k e
  simp only [Go.Proofs.YtbijamcoibonkaaDoor.grow,Option.some.injEq,Prod.mk.injEq] at e
  obtain ⟨rfl,rfl⟩:=e
  exact ⟨by omega,by simp,by simp,fun x hx=>by have:=h.le x hx;omega⟩
 | some q =>
  obtain ⟨t,k⟩:=q
  intro u k' e
  simp only [Go.Proofs.YtbijamcoibonkaaDoor.grow,Option.some.injEq,Prod.mk.injEq] at e
  obtain ⟨rfl,rfl⟩:=e
  obtain ⟨h1,h2,h3,h4⟩:=h.cur t k rfl
  exact ⟨h1,by simp;omega,by rw [List.drop_append_of_le_length (by omega),h3],h4⟩
theorem lt_spec (n:Nat) (line:Bs):∀ (t pre:Bs) (cur:Option (Bs × Nat)) (acc ws:List Wd),line=pre++t→LtI n line pre cur acc→lt n t pre.length cur acc = .ok ws→(∀ x ∈ ws,OkW n line x)∧ws.Pairwise (fun a b=>a.2.2<b.2.2)
 | [],pre,cur,acc,ws,hl,h,e=>by
  obtain rfl:flushW n cur acc=ws:=by simpa [lt] using e
  exact ⟨(h.flush hl).1,(h.flush hl).2.1⟩
 | c :: r,pre,cur,acc,ws,hl,h,e=>by
  have hl':line=(pre++[c])++r:=by rw [hl];simp
  have hp:pre.length+1=(pre++[c]).length:=by simp
  rw [lt_cons] at e
  split at e
  ·obtain rfl:flushW n cur acc=ws:=by simpa using e
   exact ⟨(h.flush hl).1,(h.flush hl).2.1⟩
  ·split at e
   ·rw [hp] at e
    exact lt_spec n line r (pre++[c]) none _ ws hl' (h.sep hl) e
   ·split at e
    ·cases e
    ·rw [hp] at e
     exact lt_spec n line r (pre++[c]) _ acc ws hl' h.grow e
structure RowOk (rows:List Bs) (n:Nat) (ws:List Wd):Prop where
 ne:ws ≠ []
 at':∃ j,∃ h:j<rows.length,∀ x ∈ ws,OkW (n+j) rows[j] x
 inc:ws.Pairwise (fun a b=>a.2.2<b.2.2)
theorem RowOk.shift {r0:Bs} {rows:List Bs} {n:Nat} {ws:List Wd} (h:RowOk rows (n+1) ws):RowOk (r0 :: rows) n ws:=by
 obtain ⟨h1,⟨j,hj,h2⟩,h3⟩:=h
 exact ⟨h1,⟨j+1,by simpa using hj,fun x hx=>by have:=h2 x hx;rw [show n+1+j=n+(j+1) by omega] at this;simpa using this⟩,h3⟩
theorem RowOk.line {rows:List Bs} {n:Nat} {ws:List Wd} (h:RowOk rows n ws):∃ L,n≤L∧∀ x ∈ ws,x.2.1=L:=by
 obtain ⟨_,⟨j,_,h2⟩,_⟩:=h
 exact ⟨n+j,by omega,fun x hx=>(h2 x hx).1⟩
def Up (a b:List Wd):Prop:=∀ x ∈ a,∀ y ∈ b,x.2.1<y.2.1
theorem ls_spec:∀ (f:Nat) (s:Bs) (n:Nat) (out o:List (List Wd)),s.length≤f→ls n s out = .ok o→∃ new,o=out++new∧(∀ ws ∈ new,RowOk (rowsNL s) n ws)∧new.Pairwise Up:=by
 intro f
 induction f with
 | zero =>
  intro s n out o hf h
  obtain rfl:s=[]:=List.eq_nil_of_length_eq_zero (by omega)
  rw [ls] at h
  have:o=out:=by simpa [cutNL,lt,flushW,addL] using h.symm
  exact ⟨[],by simp [this],by simp,List.Pairwise.nil⟩
 | succ f ih =>
  intro s n out o hf h
  rw [ls] at h
  cases hl:lt n (cutNL s).1 0 none [] with
  | error i=>rw [hl] at h;cases h
  | ok ws =>
   rw [hl] at h
   have h0:LtI n (cutNL s).1 [] none []:=⟨by simp,List.Pairwise.nil,by simp,fun u c e=>by cases e⟩
   obtain ⟨g1,g2⟩:=lt_spec n (cutNL s).1 (cutNL s).1 [] none [] ws rfl h0 hl
   have hr0:∀ (hw:ws ≠ []) (tail:List Bs),RowOk ((cutNL s).1 :: tail) n ws:=fun hw tail=>⟨hw,⟨0,by simp,fun x hx=>by simpa using g1 x hx⟩,g2⟩
   by_cases hm:(cutNL s).2.2=true
   ·simp only [dif_pos hm] at h
    obtain ⟨new,e1,e2,e3⟩:=ih (cutNL s).2.1 (n+1) (addL out ws) o (by have:=cutNL_len s hm;omega) h
    have hrows:rowsNL s=(cutNL s).1 :: rowsNL (cutNL s).2.1:=by rw [rowsNL,dif_pos hm]
    rw [hrows]
    by_cases hw:ws=[]
    ·refine ⟨new,by rw [e1];simp [addL,hw],fun x hx=>(e2 x hx).shift,e3⟩
    ·refine ⟨ws :: new,by rw [e1];simp [addL,hw],fun x hx=>?_,?_⟩
     ·rcases List.mem_cons.1 hx with rfl | hx
      ·exact hr0 hw _
      ·exact (e2 x hx).shift
     ·refine List.pairwise_cons.2 ⟨fun b hb x hx y hy=>?_,e3⟩
      obtain ⟨L,hL,hL2⟩:=(e2 b hb).line
      have:=hL2 y hy
      have:=(g1 x hx).1
      omega
   ·simp only [dif_neg hm] at h
    have hrows:rowsNL s=[(cutNL s).1]:=by rw [rowsNL,dif_neg hm]
    rw [hrows]
    obtain rfl:addL out ws=o:=by simpa using h
    by_cases hw:ws=[]
    ·exact ⟨[],by simp [addL,hw],by simp,List.Pairwise.nil⟩
    ·exact ⟨[ws],by simp [addL,hw],fun x hx=>by obtain rfl:=List.mem_singleton.1 hx;exact hr0 hw _,List.pairwise_singleton _ _⟩
theorem tok_spec (s:Bs) (o:List (List Wd)) (h:tok s = .ok o):(∀ ws ∈ o,RowOk (rowsNL s) 1 ws)∧o.Pairwise Up:=by
 obtain ⟨new,e1,e2,e3⟩:=ls_spec s.length s 1 [] o (Nat.le_refl _) h
 obtain rfl:o=new:=by simpa using e1
 exact ⟨e2,e3⟩
theorem cutNL_eq:∀ s:Bs,(cutNL s).2.2=true→s=(cutNL s).1++10 :: (cutNL s).2.1
 | [],h=>by simp [cutNL] at h
 | c :: r,h=>by
  unfold cutNL at h ⊢
  split
  ·rename_i e;subst e;rfl
  ·rename_i e
   rw [if_neg e] at h
   have:=cutNL_eq r h
   simp only [List.cons_append]
   rw [← this]
theorem splitK_nl:∀ (k:Nat) (s:Bs),s.count 10≤k→Lib.splitK [10] 0 k s=rowsNL s
 | 0,s,h=>by
  have hn:∀ d ∈ s,d ≠ 10:=fun d hd e=>by subst e;have:=List.count_pos_iff.2 hd;omega
  rw [rowsNL,cutNL_none s hn];rfl
 | k+1,s,h=>by
  unfold Lib.splitK
  rcases index_nl s with ⟨h1,h2⟩ | ⟨i,h1,h2⟩
  ·rw [h1,rowsNL,h2];rfl
  ·rw [h1,rowsNL,h2,if_neg (by rw [beq_iff_eq];omega)]
   have e1:((i:Int).toNat+0)=i:=by simp
   have e2:((i:Int).toNat+([10]:Bs).length)=i+1:=by simp
   rw [e1,e2,dif_pos rfl]
   congr 1
   refine splitK_nl k _ ?_
   have hc:s=s.take i++10 :: s.drop (i+1):=by
    have:=cutNL_eq s
    rw [h2] at this
    exact this rfl
   have:=congrArg (List.count 10) hc
   rw [List.count_append,List.count_cons_self] at this
   omega
def plB (c:UInt8):Bool:=decide (33≤c.toNat) && decide (c.toNat≤126) && decide (c.toNat ≠ 35)
theorem plB_bd {c:UInt8} (h:plB c=true):33≤c.toNat∧c.toNat≤126∧c.toNat ≠ 35:=by
 simp [plB] at h;omega
theorem plB_spec {c:UInt8} (h:plB c=true):badB c=false∧sepB c=false∧c ≠ 35∧c ≠ 10:=by
 have:=plB_bd h
 refine ⟨?_,?_,?_,?_⟩
 ·simp only [badB,Bool.or_eq_false_iff,decide_eq_false_iff_not,UInt8.lt_iff_toNat_lt]
  refine ⟨?_,?_⟩
  ·show ¬ c.toNat<32;omega
  ·show ¬ 126<c.toNat;omega
 ·have h32:c ≠ 32:=by rintro rfl;simp at this
  have h9:c ≠ 9:=by rintro rfl;simp at this
  simp [sepB,h32,h9]
 ·rintro rfl;simp at this
 ·rintro rfl;simp at this
theorem lt_wd (n c:Nat):∀ (w r:Bs) (i:Nat) (u:Bs) (acc:List Wd),(∀ d ∈ w,plB d=true)→lt n (w++r) i (some (u,c)) acc=lt n r (i+w.length) (some (u++w,c)) acc
 | [],r,i,u,acc,_=>by simp
 | d :: w,r,i,u,acc,h=>by
  obtain ⟨h1,h2,h3,_⟩:=plB_spec (h d (by simp))
  rw [List.cons_append,lt_cons,if_neg h3,if_neg (by rw [h2];decide),if_neg (by rw [h1];decide)]
  show lt n (w++r) (i+1) (some (u++[d],c)) acc=_
  rw [lt_wd n c w r (i+1) (u++[d]) acc fun e he=>h e (by simp [he])]
  simp only [List.append_assoc,List.cons_append,List.nil_append,List.length_cons]
  rw [show i+1+w.length=i+(w.length+1) by omega]
theorem lt_word (n:Nat) (w r:Bs) (i:Nat) (acc:List Wd) (hw:w ≠ []) (h:∀ d ∈ w,plB d=true):lt n (w++r) i none acc=lt n r (i+w.length) (some (w,i+1)) acc:=by
 obtain ⟨d,w,rfl⟩:=List.exists_cons_of_ne_nil hw
 obtain ⟨h1,h2,h3,_⟩:=plB_spec (h d (by simp))
 rw [List.cons_append,lt_cons,if_neg h3,if_neg (by rw [h2];decide),if_neg (by rw [h1];decide)]
 show lt n (w++r) (i+1) (some ([d],i+1)) acc=_
 rw [lt_wd n (i+1) w r (i+1) [d] acc fun e he=>h e (by simp [he])]
 simp only [List.cons_append,List.nil_append,List.length_cons]
 rw [show i+1+w.length=i+(w.length+1) by omega]
theorem lt_sep1 (n:Nat) (c:UInt8) (r:Bs) (i:Nat) (cur:Option (Bs × Nat)) (acc:List Wd) (h:sepB c=true) (h35:c ≠ 35):lt n (c :: r) i cur acc=lt n r (i+1) none (flushW n cur acc):=by
 rw [lt_cons,if_neg h35,if_pos h]
def txts (o:List (List Wd)):List (List Bs):=o.map (·.map (·.1))
end Go.Proofs.YtbijamcoibonkaaDoor
