/-
 Words made of bytes, joined by blanks, and a byte that stands in no text: where the text is refused. No program in sight.
-/
import Derived.Test.YtbijamcoibonkaaDoorCSTkN
import Derived.Lib.Join
import Derived.Test.YtbijamcoibonkaaDoorCSTkL
import Derived.Lib.Split
import Derived.Lib.SplitLaws
namespace Go.Proofs.YtbijamcoibonkaaDoor
set_option linter.unusedSimpArgs false
set_option linter.unusedVariables false
def pcN (n:Nat):Nat:=if 33+n % 94=35 then 36 else 33+n % 94
def pw (c:UInt8):Bs:=List.replicate (1+c.toNat / 94) (UInt8.ofNat (pcN c.toNat))
theorem lt_cons (n:Nat) (c:UInt8) (r:Bs) (i:Nat) (cur:Option (Bs × Nat)) (acc:List Wd):lt n (c :: r) i cur acc=if c=35 then .ok (flushW n cur acc) else if sepB c=true then lt n r (i+1) none (flushW n cur acc) else if badB c=true then .error i else lt n r (i+1) (grow c i cur) acc:=rfl
theorem cutNL_at:∀ (s r:Bs),(∀ d ∈ s,d ≠ 10)→cutNL (s++10 :: r)=(s,r,true)
 | [],r,_=>by simp [cutNL]
 | c :: s,r,h=>by
  rw [List.cons_append]
  unfold cutNL
  rw [if_neg (h c (by simp)),cutNL_at s r fun d hd=>h d (by simp [hd])]
def OkW (n:Nat) (line:Bs) (x:Wd):Prop:=x.2.1=n∧1≤x.2.2∧x.1 <+: line.drop (x.2.2 - 1)
structure LtI (n:Nat) (line pre:Bs) (cur:Option (Bs × Nat)) (acc:List Wd):Prop where
 ok:∀ x ∈ acc,OkW n line x
 inc:acc.Pairwise (fun a b=>a.2.2<b.2.2)
 le:∀ x ∈ acc,x.2.2≤pre.length
 cur:∀ u c,cur=some (u,c)→1≤c∧c≤pre.length∧pre.drop (c - 1)=u∧∀ x ∈ acc,x.2.2<c
theorem LtI.flush {n:Nat} {line pre t:Bs} {cur:Option (Bs × Nat)} {acc:List Wd} (h:LtI n line pre cur acc) (hl:line=pre++t):(∀ x ∈ flushW n cur acc,OkW n line x)∧(flushW n cur acc).Pairwise (fun a b=>a.2.2<b.2.2)∧∀ x ∈ flushW n cur acc,x.2.2≤pre.length:=by
 cases cur with
 | none=>exact ⟨h.ok,h.inc,h.le⟩
 | some q =>
  obtain ⟨u,c⟩:=q
  obtain ⟨h1,h2,h3,h4⟩:=h.cur u c rfl
  refine ⟨fun x hx=>?_,?_,fun x hx=>?_⟩
  ·rcases List.mem_append.1 hx with hx | hx
   ·exact h.ok x hx
   ·obtain rfl:=List.mem_singleton.1 hx
    refine ⟨rfl,h1,?_⟩
    rw [hl,List.drop_append_of_le_length (by show c - 1≤_;omega),show (c:Nat) - 1=c - 1 from rfl]
    show u <+: pre.drop (c - 1)++t
    rw [h3];exact List.prefix_append _ _
  ·refine List.pairwise_append.2 ⟨h.inc,List.pairwise_singleton _ _,fun a ha b hb=>?_⟩
   obtain rfl:=List.mem_singleton.1 hb
   exact h4 a ha
  ·rcases List.mem_append.1 hx with hx | hx
   ·exact h.le x hx
   ·obtain rfl:=List.mem_singleton.1 hx
    exact h2
theorem LtI.sep {n:Nat} {line pre t:Bs} {cur:Option (Bs × Nat)} {acc:List Wd} {c:UInt8} (h:LtI n line pre cur acc) (hl:line=pre++t):LtI n line (pre++[c]) none (flushW n cur acc):=by
 obtain ⟨h1,h2,h3⟩:=h.flush hl
 exact ⟨h1,h2,fun x hx=>by have:=h3 x hx;simp;omega,fun u c e=>by cases e⟩
theorem LtI.grow {n:Nat} {line pre:Bs} {cur:Option (Bs × Nat)} {acc:List Wd} {c:UInt8} (h:LtI n line pre cur acc):LtI n line (pre++[c]) (grow c pre.length cur) acc:=by
 refine ⟨h.ok,h.inc,fun x hx=>by have:=h.le x hx;simp;omega,?_⟩
 cases cur with
 | none =>
  intro u k e
  simp only [Go.Proofs.YtbijamcoibonkaaDoor.grow,Option.some.injEq,Prod.mk.injEq] at e
  obtain ⟨rfl,rfl⟩:=e
  exact ⟨by omega,by simp,by simp,fun x hx=>by have:=h.le x hx;omega⟩
 | some q =>
  obtain ⟨t,k⟩:=q
  intro u k' e
  simp only [Go.Proofs.YtbijamcoibonkaaDoor.grow,Option.some.injEq,Prod.mk.injEq] at e
  obtain ⟨rfl,rfl⟩:=e
  obtain ⟨h1,h2,h3,h4⟩:=h.cur t k rfl
  exact ⟨h1,by simp;omega,by rw [List.drop_append_of_le_length (by omega),h3],h4⟩
structure RowOk (rows:List Bs) (n:Nat) (ws:List Wd):Prop where
 ne:ws ≠ []
 at':∃ j,∃ h:j<rows.length,∀ x ∈ ws,OkW (n+j) rows[j] x
 inc:ws.Pairwise (fun a b=>a.2.2<b.2.2)
theorem RowOk.line {rows:List Bs} {n:Nat} {ws:List Wd} (h:RowOk rows n ws):∃ L,n≤L∧∀ x ∈ ws,x.2.1=L:=by
 obtain ⟨_,⟨j,_,h2⟩,_⟩:=h
 exact ⟨n+j,by omega,fun x hx=>(h2 x hx).1⟩
def plB (c:UInt8):Bool:=decide (33≤c.toNat) && decide (c.toNat≤126) && decide (c.toNat ≠ 35)
theorem plB_bd {c:UInt8} (h:plB c=true):33≤c.toNat∧c.toNat≤126∧c.toNat ≠ 35:=by
 simp [plB] at h;omega
theorem plB_spec {c:UInt8} (h:plB c=true):badB c=false∧sepB c=false∧c ≠ 35∧c ≠ 10:=by
 have:=plB_bd h
 refine ⟨?_,?_,?_,?_⟩
 ·simp only [badB,Bool.or_eq_false_iff,decide_eq_false_iff_not,UInt8.lt_iff_toNat_lt]
  refine ⟨?_,?_⟩
  ·show ¬ c.toNat<32;omega
  ·show ¬ 126<c.toNat;omega
 ·have h32:c ≠ 32:=by rintro rfl;simp at this
  have h9:c ≠ 9:=by rintro rfl;simp at this
  simp [sepB,h32,h9]
 ·rintro rfl;simp at this
 ·rintro rfl;simp at this
theorem lt_wd (n c:Nat):∀ (w r:Bs) (i:Nat) (u:Bs) (acc:List Wd),(∀ d ∈ w,plB d=true)→lt n (w++r) i (some (u,c)) acc=lt n r (i+w.length) (some (u++w,c)) acc
 | [],r,i,u,acc,_=>by simp
 | d :: w,r,i,u,acc,h=>by
  obtain ⟨h1,h2,h3,_⟩:=plB_spec (h d (by simp))
  rw [List.cons_append,lt_cons,if_neg h3,if_neg (by rw [h2];decide),if_neg (by rw [h1];decide)]
  show lt n (w++r) (i+1) (some (u++[d],c)) acc=_
  rw [lt_wd n c w r (i+1) (u++[d]) acc fun e he=>h e (by simp [he])]
  simp only [List.append_assoc,List.cons_append,List.nil_append,List.length_cons]
  rw [show i+1+w.length=i+(w.length+1) by omega]
theorem lt_word (n:Nat) (w r:Bs) (i:Nat) (acc:List Wd) (hw:w ≠ []) (h:∀ d ∈ w,plB d=true):lt n (w++r) i none acc=lt n r (i+w.length) (some (w,i+1)) acc:=by
 obtain ⟨d,w,rfl⟩:=List.exists_cons_of_ne_nil hw
 obtain ⟨h1,h2,h3,_⟩:=plB_spec (h d (by simp))
 rw [List.cons_append,lt_cons,if_neg h3,if_neg (by rw [h2];decide),if_neg (by rw [h1];decide)]
 show lt n (w++r) (i+1) (some ([d],i+1)) acc=_
 rw [lt_wd n (i+1) w r (i+1) [d] acc fun e he=>h e (by simp [he])]
 simp only [List.cons_append,List.nil_append,List.length_cons]
 rw [show i+1+w.length=i+(w.length+1) by omega]
theorem lt_sep1 (n:Nat) (c:UInt8) (r:Bs) (i:Nat) (cur:Option (Bs × Nat)) (acc:List Wd) (h:sepB c=true) (h35:c ≠ 35):lt n (c :: r) i cur acc=lt n r (i+1) none (flushW n cur acc):=by
 rw [lt_cons,if_neg h35,if_pos h]
def txts (o:List (List Wd)):List (List Bs):=o.map (·.map (·.1))
end Go.Proofs.YtbijamcoibonkaaDoor
