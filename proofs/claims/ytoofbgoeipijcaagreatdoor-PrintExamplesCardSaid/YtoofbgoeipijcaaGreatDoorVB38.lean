/-
 A part.
-/
import Derived.Lib.Split
import Derived.Lib.SplitLaws
import Derived.Test.YtoofbgoeipijcaaGreatDoorVSPtN
namespace Go.Proofs.YtoofbgoeipijcaaGreatDoor
set_option linter.all false
open Go.Lib
end Go.Proofs.YtoofbgoeipijcaaGreatDoor
namespace Go.Proofs.YtoofbgoeipijcaaGreatDoor
set_option linter.all false
open Go.RowKit Go.Shelf
def NumA (a:Ag):Prop:=a.num<=18446744073709551615
def NumI (x:In):Prop:=∀ a ∈ x.args,NumA a
def OkW (n:Nat) (line:Bs) (x:Wd):Prop:=x.2.1=n/\1<=x.2.2/\x.1 <+: line.drop (x.2.2 - 1)
structure LtI (n:Nat) (line pre:Bs) (cur:Option (Bs × Nat)) (acc:List Wd):Prop where
 ok:∀ x ∈ acc,OkW n line x
 inc:acc.Pairwise (fun a b=>a.2.2<b.2.2)
 le:∀ x ∈ acc,x.2.2<=pre.length
 cur:∀ u c,cur=some (u,c)->1<=c/\c<=pre.length/\pre.drop (c - 1)=u/\∀ x ∈ acc,x.2.2<c
theorem LtI.flush {n:Nat} {line pre t:Bs} {cur:Option (Bs × Nat)} {acc:List Wd} (h:LtI n line pre cur acc) (hl:line=pre++t):(∀ x ∈ flushW n cur acc,OkW n line x)/\(flushW n cur acc).Pairwise (fun a b=>a.2.2<b.2.2)/\∀ x ∈ flushW n cur acc,x.2.2<=pre.length:=by
 cases cur with
 | none=>exact ⟨h.ok,h.inc,h.le⟩
 | some q =>
  obtain ⟨u,c⟩:=q
  obtain ⟨h1,h2,h3,h4⟩:=h.cur u c rfl
  refine ⟨fun x hx=>?_,?_,fun x hx=>?_⟩
  ·rcases List.mem_append.1 hx with hx | hx
   ·exact h.ok x hx
   ·obtain rfl:=List.mem_singleton.1 hx
    refine ⟨rfl,h1,?_⟩
    rw [hl,List.drop_append_of_le_length (by show c - 1<=_;omega),show (c:Nat) - 1=c - 1 from rfl]
    show u <+: pre.drop (c - 1)++t
    rw [h3];exact List.prefix_append _ _
  ·refine List.pairwise_append.2 ⟨h.inc,List.pairwise_singleton _ _,fun a ha b hb=>?_⟩
   obtain rfl:=List.mem_singleton.1 hb
   exact h4 a ha
  ·rcases List.mem_append.1 hx with hx | hx
   ·exact h.le x hx
   ·obtain rfl:=List.mem_singleton.1 hx
    exact h2
theorem LtI.sep {n:Nat} {line pre t:Bs} {cur:Option (Bs × Nat)} {acc:List Wd} {c:UInt8} (h:LtI n line pre cur acc) (hl:line=pre++t):LtI n line (pre++[c]) none (flushW n cur acc):=by
 obtain ⟨h1,h2,h3⟩:=h.flush hl
 exact ⟨h1,h2,fun x hx=>by have:=h3 x hx;simp;omega,fun u c e=>by cases e⟩
theorem LtI.grow {n:Nat} {line pre:Bs} {cur:Option (Bs × Nat)} {acc:List Wd} {c:UInt8} (h:LtI n line pre cur acc):LtI n line (pre++[c]) (grow c pre.length cur) acc:=by
 refine ⟨h.ok,h.inc,fun x hx=>by have:=h.le x hx;simp;omega,?_⟩
 cases cur with
 | none =>
  intro u k e
  simp only [Go.Proofs.YtoofbgoeipijcaaGreatDoor.grow,Option.some.injEq,Prod.mk.injEq] at e
  obtain ⟨rfl,rfl⟩:=e
  exact ⟨by omega,by simp,by simp,fun x hx=>by have:=h.le x hx;omega⟩
 | some q =>
  obtain ⟨t,k⟩:=q
  intro u k' e
  simp only [Go.Proofs.YtoofbgoeipijcaaGreatDoor.grow,Option.some.injEq,Prod.mk.injEq] at e
  obtain ⟨rfl,rfl⟩:=e
  obtain ⟨h1,h2,h3,h4⟩:=h.cur t k rfl
  exact ⟨h1,by simp;omega,by rw [List.drop_append_of_le_length (by omega),h3],h4⟩
structure RowOk (rows:List Bs) (n:Nat) (ws:List Wd):Prop where
 ne:ws ≠ []
 at':∃ j,∃ h:j<rows.length,∀ x ∈ ws,OkW (n+j) rows[j] x
 inc:ws.Pairwise (fun a b=>a.2.2<b.2.2)
theorem RowOk.line {rows:List Bs} {n:Nat} {ws:List Wd} (h:RowOk rows n ws):∃ L,n<=L/\∀ x ∈ ws,x.2.1=L:=by
 obtain ⟨_,⟨j,_,h2⟩,_⟩:=h
 exact ⟨n+j,by omega,fun x hx=>(h2 x hx).1⟩
def bareI (x:In):In:={ x with pos:=(0,0) }
def bareF (f:Fu):Fu:={ f with code:=f.code.map bareI,pos:=(0,0) }
structure NumP (p:Pg):Prop where
 funcs:∀ f ∈ p.funcs,∀ x ∈ f.code,NumI x
 main:∀ x ∈ p.main,NumI x
structure Parts (p:Pg) (ls:List (List Bs)) (s1 ml s2:List Bs):Prop where
 width:1<=p.width/\p.width<=64
 nch:p.chans.length<=32
 ch:declM (0,0) [] p.chans=none
 nar:p.arrays.length<=32
 ar:arrsM [] p.arrays=none
 nfs:p.funcs.length<=32
 fs:funcsM p.chans (p.arrays.map Ar.nm) [] [] [] p.funcs=.ok (ls,s1)
 nmain:p.main.length<=1024
 main:bodyM p.chans (p.arrays.map Ar.nm) true p.main [] s1=.ok (ml,s2)
theorem check_parts (p:Pg) (h:(checkM p).2=0):∃ ls s1 ml s2,Parts p ls s1 ml s2:=by
 unfold checkM at h
 by_cases c1:p.width<1\/64<p.width
 ·rw [if_pos c1] at h;cases h
 rw [if_neg c1] at h
 by_cases c2:32<p.chans.length
 ·rw [if_pos c2] at h;cases h
 rw [if_neg c2] at h
 cases hch:declM (0,0) [] p.chans with
 | some f =>
  rw [hch] at h
  simp only at h
  exfalso
  have:∀ (l seen:List Bs) (f:Flt),declM (0,0) seen l=some f->f.2 ≠ 0:=by
   intro l
   induction l with
   | nil=>intro seen f h;cases h
   | cons a r ih =>
    intro seen f h
    unfold declM at h
    split at h
    ·cases h;simp
    ·split at h
     ·cases h;simp
     ·exact ih _ _ h
  exact this _ _ _ hch h
 | none =>
 rw [hch] at h
 simp only at h
 by_cases c3:32<p.arrays.length
 ·rw [if_pos c3] at h;cases h
 rw [if_neg c3] at h
 cases har:arrsM [] p.arrays with
 | some f =>
  rw [har] at h
  simp only at h
  exfalso
  have:∀ (l:List Ar) (seen:List Bs) (f:Flt),arrsM seen l=some f->f.2 ≠ 0:=by
   intro l
   induction l with
   | nil=>intro seen f h;cases h
   | cons a r ih =>
    intro seen f h
    unfold arrsM at h
    split at h
    ·cases h;simp
    ·split at h
     ·cases h;simp
     ·split at h
      ·cases h;simp
      ·exact ih _ _ h
  exact this _ _ _ har h
 | none =>
 rw [har] at h
 simp only at h
 by_cases c4:32<p.funcs.length
 ·rw [if_pos c4] at h;cases h
 rw [if_neg c4] at h
 have hstep0:∀ (ch ar:List Bs) (m:Bool) (l s:List Bs) (x:In) (f:Flt),stepM ch ar m l s x=.error f->f.2 ≠ 0:=by
  intro ch ar m l s x f h
  unfold stepM at h
  split at h
  ·cases h;simp
  ·split at h
   ·split at h
    ·cases h
    ·cases h;simp
   ·split at h
    ·split at h
     ·cases h
     ·cases h;simp
    ·split at h
     ·split at h
      ·cases h;simp
      ·cases h
     ·split at h
      ·split at h
       ·cases h
       ·split at h
        ·cases h
        ·cases h;simp
      ·cases h
 have hbody0:∀ (ch ar:List Bs) (m:Bool) (code:List In) (l s:List Bs) (f:Flt),bodyM ch ar m code l s=.error f->f.2 ≠ 0:=by
  intro ch ar m code
  induction code with
  | nil=>intro l s f h;cases h
  | cons x r ih =>
   intro l s f h
   unfold bodyM at h
   cases e:stepM ch ar m l s x with
   | error g=>rw [e] at h;simp only at h;cases h;exact hstep0 _ _ _ _ _ _ _ e
   | ok q=>rw [e] at h;exact ih _ _ _ h
 have hins0:∀ (ch ar:List Bs) (m:Bool) (q:Int × Int) (code:List In) (s:List Bs) (f:Flt),instrsM ch ar m q code s=.error f->f.2 ≠ 0:=by
  intro ch ar m q code s f h
  unfold instrsM at h
  split at h
  ·cases h;simp
  ·exact hbody0 _ _ _ _ _ _ _ h
 have hfun0:∀ (ch ar:List Bs) (l:List Fu) (seen:List Bs) (ls:List (List Bs)) (s:List Bs) (f:Flt),funcsM ch ar seen ls s l=.error f->f.2 ≠ 0:=by
  intro ch ar l
  induction l with
  | nil=>intro seen ls s f h;cases h
  | cons g r ih =>
   intro seen ls s f h
   unfold funcsM at h
   split at h
   ·cases h;simp
   ·split at h
    ·cases h;simp
    ·split at h
     ·cases h;simp
     ·split at h
      ·rename_i x e
       cases h
       have:∀ (l seen:List Bs) (q:Int × Int) (f:Flt),declM q seen l=some f->f.2 ≠ 0:=by
        intro l
        induction l with
        | nil=>intro seen q f h;cases h
        | cons a r ih =>
         intro seen q f h
         unfold declM at h
         split at h
         ·cases h;simp
         ·split at h
          ·cases h;simp
          ·exact ih _ _ _ h
       exact this _ _ _ _ e
      ·split at h
       ·rename_i e;cases h;exact hins0 _ _ _ _ _ _ _ e
       ·exact ih _ _ _ _ h
 cases hf:funcsM p.chans (p.arrays.map Ar.nm) [] [] [] p.funcs with
 | error f=>rw [hf] at h;exact absurd h (hfun0 _ _ _ _ _ _ _ hf)
 | ok q =>
 obtain ⟨ls,s1⟩:=q
 rw [hf] at h
 simp only at h
 cases hm:instrsM p.chans (p.arrays.map Ar.nm) true (0,0) p.main s1 with
 | error f=>rw [hm] at h;exact absurd h (hins0 _ _ _ _ _ _ _ hm)
 | ok q =>
 obtain ⟨ml,s2⟩:=q
 clear h
 unfold instrsM at hm
 by_cases c5:1024<p.main.length
 ·rw [if_pos c5] at hm;cases hm
 rw [if_neg c5] at hm
 exact ⟨ls,s1,ml,s2,⟨by omega,by omega⟩,by omega,hch,by omega,har,by omega,hf,by omega,hm⟩
theorem jn_one (w:Bs):jn [w]=w:=by unfold jn;rw [Lib.join_cons];simp [Lib.joinTail]
theorem decl_named (q:Int × Int):∀ (l seen:List Bs),declM q seen l=none->∀ s ∈ l,namedB s=true
 | [],_,_=>by simp
 | x :: r,seen,h=>by
  unfold declM at h
  split at h
  ·cases h
  ·rename_i c
   split at h
   ·cases h
   ·intro s hs
    rcases List.mem_cons.1 hs with rfl | hs
    ·simpa using c
    ·exact decl_named q r _ h s hs
theorem arrs_named:∀ (l:List Ar) (seen:List Bs),arrsM seen l=none->∀ a ∈ l,namedB a.nm=true/\1<=a.size/\a.size<=64
 | [],_,_=>by simp
 | x :: r,seen,h=>by
  unfold arrsM at h
  split at h
  ·cases h
  ·rename_i c
   split at h
   ·cases h
   ·split at h
    ·cases h
    ·rename_i c3
     intro s hs
     rcases List.mem_cons.1 hs with rfl | hs
     ·exact ⟨by simpa using c,by omega,by omega⟩
     ·exact arrs_named r _ h s hs
theorem step_form {ch ar:List Bs} {m:Bool} {l s l' s':List Bs} {x:In} (h:stepM ch ar m l s x=.ok (l',s')):formB x=true:=by
 unfold stepM at h
 split at h
 ·cases h
 ·rename_i c
  cases hx:formB x with
  | true=>rfl
  | false=>rw [hx] at c;simp at c
theorem body_form {ch ar:List Bs} {m:Bool}:∀ (code:List In) (l s l' s':List Bs),bodyM ch ar m code l s=.ok (l',s')->∀ x ∈ code,formB x=true
 | [],_,_,_,_,_=>by simp
 | y :: r,l,s,l',s',h=>by
  unfold bodyM at h
  cases e:stepM ch ar m l s y with
  | error f=>rw [e] at h;cases h
  | ok q =>
   obtain ⟨l1,s1⟩:=q
   rw [e] at h
   intro x hx
   rcases List.mem_cons.1 hx with rfl | hx
   ·exact step_form e
   ·exact body_form r l1 s1 l' s' h x hx
theorem funcs_form {ch ar:List Bs}:∀ (l:List Fu) (seen:List Bs) (ls:List (List Bs)) (s:List Bs) (ls':List (List Bs)) (s':List Bs),funcsM ch ar seen ls s l=.ok (ls',s') ->
  ∀ f ∈ l,namedB f.nm=true/\(∀ q ∈ f.params,namedB q=true)/\f.params.length<=32/\f.code.length<=1024/\∀ x ∈ f.code,formB x=true
 | [],_,_,_,_,_,_=>by simp
 | g :: r,seen,ls,s,ls',s',h=>by
  unfold funcsM at h
  by_cases c1:namedB g.nm=false
  ·rw [if_pos c1] at h;cases h
  rw [if_neg c1] at h
  by_cases c2:seen.contains g.nm=true
  ·rw [if_pos c2] at h;cases h
  rw [if_neg c2] at h
  by_cases c3:32<g.params.length
  ·rw [if_pos c3] at h;cases h
  rw [if_neg c3] at h
  cases hd:declM g.pos [] g.params with
  | some x=>rw [hd] at h;cases h
  | none =>
   rw [hd] at h
   simp only at h
   unfold instrsM at h
   by_cases c4:1024<g.code.length
   ·rw [if_pos c4] at h;cases h
   rw [if_neg c4] at h
   cases hbm:bodyM ch ar false g.code [] s with
   | error x=>rw [hbm] at h;cases h
   | ok q' =>
    obtain ⟨l1,s1⟩:=q'
    rw [hbm] at h
    intro f hf
    rcases List.mem_cons.1 hf with rfl | hf
    ·exact ⟨by simpa using c1,decl_named _ _ _ hd,by omega,by omega,body_form _ _ _ _ _ hbm⟩
    ·exact funcs_form r _ _ _ _ _ h f hf
end Go.Proofs.YtoofbgoeipijcaaGreatDoor
namespace Go.Proofs.YtoofbgoeipijcaaGreatDoor
set_option linter.all false
open Go.RowKit Go.Shelf
attribute [local go_sem] Oper.semAt_some
theorem textT_app (a b:List Bs):textT (a++b)=textT a++textT b:=by unfold textT;rw [List.flatMap_append]
theorem textT_one (s:Bs):textT [s]=s++[10]:=by simp [textT]
theorem textT_len:∀ (l:List Bs) (m:Nat),(∀ s ∈ l,s.length<=m)->(textT l).length<=l.length*(m+1)
 | [],m,_=>by simp [textT]
 | s :: r,m,h=>by
  have h1:=h s (List.mem_cons_self ..)
  have h2:=textT_len r m fun t ht=>h t (List.mem_cons_of_mem _ ht)
  have e:textT (s :: r)=s++[10]++textT r:=by simp [textT]
  have e2:(s :: r).length*(m+1)=r.length*(m+1)+(m+1):=by rw [List.length_cons,Nat.succ_mul]
  rw [e,e2,List.length_append,List.length_append]
  simp only [List.length_cons,List.length_nil]
  omega
theorem words_len (x:In) (h:FormS x.kind x.op x.dst x.nm x.args):(wordsM x).length<=40/\∀ s ∈ wordsM x,s.length<=32:=by
 have ha:∀ s ∈ x.args.map argT,s.length<=32:=fun s hs=>by obtain ⟨a,ha,rfl⟩:=List.mem_map.1 hs;exact h.each a ha
 have hl:(x.args.map argT).length<=32:=by rw [List.length_map];exact h.alen
 have hk:=h.kd
 have hd:=h.dlen
 have hn:=h.nlen
 unfold wordsM
 split
 all_goals (refine ⟨by simp only [List.length_cons,List.length_append,List.length_nil];omega,fun s hs=>?_⟩)
 all_goals simp only [List.mem_cons,List.mem_append,List.not_mem_nil,or_false] at hs
 ·rcases hs with rfl | rfl | hs
  ·exact hd
  ·decide
  ·exact ha s hs
 ·rcases hs with rfl | rfl | rfl | hs
  ·exact hd
  ·decide
  ·exact h.olen (by assumption)
  ·exact ha s hs
 ·rcases hs with rfl | rfl | rfl | rfl | hs
  ·exact hd
  ·decide
  ·decide
  ·exact hn
  ·exact ha s hs
 ·rcases hs with rfl | rfl | hs
  ·decide
  ·exact hn
  ·exact ha s hs
 ·rcases hs with rfl | rfl | rfl | rfl | hs
  ·exact hd
  ·decide
  ·decide
  ·exact hn
  ·exact ha s hs
 ·rcases hs with rfl | rfl | rfl
  ·decide
  ·exact hd
  ·exact hn
 ·rcases hs with rfl | rfl | hs
  ·decide
  ·exact hn
  ·exact ha s hs
 ·rcases hs with rfl | rfl | rfl | rfl | hs
  ·exact hd
  ·decide
  ·decide
  ·exact hn
  ·exact ha s hs
 ·rcases hs with rfl | rfl | hs
  ·decide
  ·exact hn
  ·exact ha s hs
 ·rcases hs with rfl | hs | rfl
  ·decide
  ·exact ha s hs
  ·exact hn
 ·rcases hs with rfl
  decide
 ·rcases hs with rfl | hs
  ·decide
  ·exact ha s hs
theorem line_len (x:In) (h:formB x=true) (hn:∀ a ∈ x.args,a.num<18446744073709551616):(lineM x).length<=2000:=by
 have hf:=form_s h hn
 unfold lineM
 split
 ·have:=hf.nlen
  rw [List.length_append];simp only [List.length_cons,List.length_nil];omega
 ·obtain ⟨h1,h2⟩:=words_len x hf
  exact Nat.le_trans (jn_len _ 32 h2) (by omega)
theorem body_len (l:List In) (hl:l.length<=1024) (h:∀ x ∈ l,formB x=true) (hn:∀ x ∈ l,∀ a ∈ x.args,a.num<18446744073709551616):(bodyT l).length<=1025/\∀ s ∈ bodyT l,s.length<=2000:=by
 unfold bodyT
 refine ⟨by rw [List.length_append,List.length_map];simp only [List.length_cons,List.length_nil];omega,fun s hs=>?_⟩
 rcases List.mem_append.1 hs with hs | hs
 ·obtain ⟨x,hx,rfl⟩:=List.mem_map.1 hs
  exact line_len x (h x hx) (hn x hx)
 ·rw [List.mem_singleton.1 hs];decide
theorem itoa_short (n:Int) (h0:1<=n) (h1:n<=64):(Lib.itoa n).length<=21:=Lib.itoa_length_le n (by omega) (by omega)
theorem flat_len:∀ (l:List Fu) (m:Nat),(∀ f ∈ l,(funcT f).length<=m)->(l.flatMap funcT).length<=l.length*m
 | [],m,_=>by simp
 | f :: r,m,h=>by
  have h1:=h f (List.mem_cons_self ..)
  have h2:=flat_len r m fun t ht=>h t (List.mem_cons_of_mem _ ht)
  rw [List.flatMap_cons,List.length_append,List.length_cons,Nat.succ_mul]
  omega
theorem lines_len (p:Pg) (h:(checkM p).2=0) (hn:NumP p):(linesT p).length<=40000/\∀ s ∈ linesT p,s.length<=2000:=by
 obtain ⟨ls,s1,ml,s2,⟨hw1,hw2⟩,c2,hch,c3,har,c4,hf,c5,hm⟩:=check_parts p h
 have hff:=funcs_form _ _ _ _ _ _ hf
 have hmm:=body_form _ _ _ _ _ hm
 have hj2:∀ (L:List Bs) (m:Nat),L.length<=m->m<=36->(∀ s ∈ L,s.length<=32)->(jn L).length<=2000:=fun L m h1 h2 h3=>Nat.le_trans (jn_len L 32 h3) (by have h4:L.length<=36:=(by omega);omega)
 have hfl:∀ f ∈ p.funcs,(funcT f).length<=1026/\∀ s ∈ funcT f,s.length<=2000:=fun f hfm=>by
  obtain ⟨f1,f2,f3,f4,f5⟩:=hff f hfm
  obtain ⟨b1,b2⟩:=body_len f.code f4 f5 (fun x hx a ha=>by have:a.num<=18446744073709551615:=hn.funcs f hfm x hx a ha;omega)
  unfold funcT
  refine ⟨by rw [List.length_cons];omega,fun s hs=>?_⟩
  rcases List.mem_cons.1 hs with rfl | hs
  ·refine hj2 _ (2+f.params.length) (by simp only [List.length_cons];omega) (by omega) fun s hs=>?_
   simp only [List.mem_cons] at hs
   rcases hs with rfl | rfl | hs
   ·decide
   ·exact named_len f1
   ·exact named_len (f2 s hs)
  ·exact b2 s hs
 obtain ⟨m1,m2⟩:=body_len p.main c5 hmm fun x hx a ha=>by have:a.num<=18446744073709551615:=hn.main x hx a ha;omega
 unfold linesT
 constructor
 ·have:=flat_len p.funcs 1026 fun f hf=>(hfl f hf).1
  have:p.funcs.length*1026<=32*1026:=Nat.mul_le_mul_right _ c4
  simp only [List.cons_append,List.append_assoc,List.length_cons,List.length_append,List.length_map]
  omega
 ·intro s hs
  simp only [List.cons_append,List.append_assoc,List.mem_cons,List.mem_append,List.mem_map,List.mem_flatMap] at hs
  rcases hs with rfl | ⟨c,hc,rfl⟩ | ⟨a,ha,rfl⟩ | ⟨f,hf',hk⟩ | rfl | hk
  ·refine hj2 _ 2 (by simp) (by omega) fun s hs=>?_
   simp only [List.mem_cons,List.not_mem_nil,or_false] at hs
   rcases hs with rfl | rfl
   ·decide
   ·exact Nat.le_trans (itoa_short _ hw1 hw2) (by omega)
  ·refine hj2 _ 2 (by simp) (by omega) fun s hs=>?_
   simp only [List.mem_cons,List.not_mem_nil,or_false] at hs
   rcases hs with rfl | rfl
   ·decide
   ·exact named_len (decl_named _ _ _ hch _ hc)
  ·obtain ⟨a1,a2,a3⟩:=arrs_named _ _ har a ha
   refine hj2 _ 3 (by simp) (by omega) fun s hs=>?_
   simp only [List.mem_cons,List.not_mem_nil,or_false] at hs
   rcases hs with rfl | rfl | rfl
   ·decide
   ·exact named_len a1
   ·exact Nat.le_trans (itoa_short _ a2 a3) (by omega)
  ·exact (hfl f hf').2 s hk
  ·decide
  ·exact m2 s hk
theorem prefix_text {a b:List Bs} (h:a <+: b):(textT a).length<=(textT b).length:=by
 obtain ⟨r,rfl⟩:=h
 rw [textT_app,List.length_append];omega
theorem part_len {p:Pg} (h:(checkM p).2=0) (hn:NumP p) {a:List Bs} (ha:a <+: linesT p):(textT a).length<=100000000:=by
 obtain ⟨h1,h2⟩:=lines_len p h hn
 have h3:=textT_len _ _ h2
 have h4:(linesT p).length*(2000+1)<=40000*2001:=Nat.mul_le_mul_right _ h1
 have h5:=prefix_text ha
 omega
theorem take_pre {α β:Type} (f:α->β) (H:List β) (l:List α) (k:Nat):H++(l.take k).map f <+: H++l.map f:=by
 rw [List.prefix_append_right_inj]
 exact ⟨(l.drop k).map f,by rw [<- List.map_append,List.take_append_drop]⟩
theorem take_preF (H:List Bs) (l:List Fu) (k:Nat):H++(l.take k).flatMap funcT <+: H++l.flatMap funcT:=by
 rw [List.prefix_append_right_inj]
 exact ⟨(l.drop k).flatMap funcT,by rw [<- List.flatMap_append,List.take_append_drop]⟩
section
variable {P:Program}
theorem wpList_catS {B:Nat} {R:Nat->Prop} {w:World} {v:Value} {l ys:List Bs} {p:Option Addr} {n c:Nat} {te:TypeId} {ops:Array Oper} {rest:List Oper} {o:Oper} {a:Act} {Q:Exit->Act->World->Prop}
  (hgd:o.guard=none) (s y:Operand) (t:TypeId) (ho:o.op=.call { callee := .builtin .append,args:=#[s,y],argTypes:=#[t,t] }) (ht:P.underlying t=some (.slice te))
  (hinfo:(P.info? te).map (fun i=>(i.zero,i.size,i.bytes))=some (some (.string ⟨#[]⟩),1,16))
  (h:GA kStr B te w v l) (hsrc:SlG kStr R w (.slice p n c) ys) (hs:a.eval s=v) (hy:a.eval y=.slice p n c)
  (hl:l.length+ys.length<=1000000) (hB:B<=w.heap.size)
  (hK:∀ v' w',GA kStr B te w' v' (l++ys)->Below B w w'->wpList P ops Q rest (a.put o.dst v') w') :
  wpList P ops Q (o :: rest) a w:=by
 obtain ⟨hn,h1,h2,hr⟩:=hsrc.strs
 refine wpList_app w hgd s y t ho B te (.string ⟨#[]⟩) 16 ht hinfo rfl v l.length (l.map sv) hs h.strs p n c (ys.map sv) hy (by rw [hn,List.length_map]) hr (by intro u hu;obtain ⟨x,_,rfl⟩:=List.mem_map.1 hu;rfl) (by omega) (by unfold maxLen;omega) hB ?_
 intro v' w' ho' hg hv
 refine hK v' w' (GA.ofStrs ?_) ((Below.refl _ _).grown hg hB fun k hk=>(h.lt k hk).1)
 rw [List.length_append,List.map_append,<- hn]
 exact ho'
theorem wpIn_catS {F:Fence} {n0:Nat} {B:Nat} {R:Nat->Prop} {w:World} (hF:∀ f,F.fn f) {v:Value} {l ys:List Bs} {p:Option Addr} {n c:Nat} {te:TypeId} {o:Oper} {a:Act} {K:Act->World->Prop} {Q:Exit->Act->World->Prop}
  (s y:Operand) (t:TypeId) (ho:o.op=.call { callee := .builtin .append,args:=#[s,y],argTypes:=#[t,t] }) (ht:P.underlying t=some (.slice te))
  (hinfo:(P.info? te).map (fun i=>(i.zero,i.size,i.bytes))=some (some (.string ⟨#[]⟩),1,16))
  (h:GA kStr B te w v l) (hsrc:SlG kStr R w (.slice p n c) ys) (hs:a.eval s=v) (hy:a.eval y=.slice p n c)
  (hl:l.length+ys.length<=1000000) (hB:B<=w.heap.size)
  (hK:∀ v' w',GA kStr B te w' v' (l++ys)->Below B w w'->w.heap.size<=w'.heap.size->(∀ k,k<w.heap.size->v.ownBlock ≠ some k->w'.heap[k]?=w.heap[k]?)->K (a.put o.dst v') w'):o.wpIn F n0 P a w K Q:=by
 obtain ⟨hn,h1,h2,hr⟩:=hsrc.strs
 refine wpIn_apd hF s y t ho B te (.string ⟨#[]⟩) 16 ht hinfo rfl v l.length (l.map sv) hs h.strs p n c (ys.map sv) hy (by rw [hn,List.length_map]) hr (by intro u hu;obtain ⟨x,_,rfl⟩:=List.mem_map.1 hu;rfl) (by omega) (by unfold maxLen;omega) hB ?_
 intro v' w' ho' hg hv
 refine hK v' w' (GA.ofStrs ?_) ((Below.refl _ _).grown hg hB fun k hk=>(h.lt k hk).1) hg.size (fun k hk hne=>hg.block k hk fun e=>hne e.symm)
 rw [List.length_append,List.map_append,<- hn]
 exact ho'
end
theorem SlG.one1 (w:World) (s:Bs) (t:TypeId):SlG kStr (·=w.heap.size) (w.alloc (.cells #[.string ⟨s.toArray⟩] t)) (.slice (some ⟨w.heap.size,0,none⟩) 1 1) [s] :=
 ⟨[[.string ⟨s.toArray⟩]],⟨rfl,fun i h h'=>by (obtain rfl:i=0:=(by simp at h;omega));rfl⟩,_,_,rfl,Nat.le_refl _,by unfold maxLen;omega,by show (1:Nat)<=_;omega,RowR.lit w [.string ⟨s.toArray⟩] t rfl⟩
def instrLs (l:List In):List Bs:=l.map fun x=>(instrM x).1
set_option maxRecDepth 100000 in
set_option maxHeartbeats 4000000 in
theorem rbody24_any (l:List In) (v:Value) (w:World) (h:SlG kIn (·<w.heap.size) w v l) (hl:l.length<=100000)
  (hq:∀ x ∈ l,x.op<=255/\x.dst.length<=140737488355328/\x.nm.length<=140737488355328/\(∀ a ∈ x.args,a.nm.length<=140737488355328)/\∀ a ∈ x.args,a.num<18446744073709551616) :
  Calls Tryz.prog 54 #[v] w fun e w'=>∃ v',e=.returned v'/\GA kStr w.heap.size 9 w' v' (instrLs l++[wEnd])/\Below w.heap.size w w':=by
 obtain ⟨p,c,rfl⟩:=h.slc
 have HS:=hid h;have HL:=hid hl;have HQ:=hid hq
 clear h hl hq
 go_enter Tryz.func54,Tryz.ntmps54
 go_wp2
 go_loopw [3,4,5,6] (fun ov iv u5 u6 wr=>∃ k:Nat,k<=l.length/\iv=.int .i64 (k:Int)/\GA kStr w.heap.size 9 wr ov (instrLs (l.take k))/\Below w.heap.size w wr) (fun _ iv _ _ _=>l.length - (intOf iv).toNat)
 case atStart=>exact ⟨0,Nat.zero_le _,rfl,GA.nil _ _ _ _,Below.refl _ _⟩
 case round =>
  obtain ⟨k,hk,rfl,hga,hbr⟩:=hrel
  obtain ⟨T,hT⟩:∃ T,instrLs (l.take k)=T:=⟨_,rfl⟩
  rw [hT] at hga
  have HTD:=hid hT
  clear hT
  obtain ⟨po,co,rfl⟩:=hga.slc
  have HBO:=hid hbr;have HGO:=hid hga
  by_cases hlt:k<l.length
  ·obtain ⟨b,off,rfl,hR,hcells⟩:=in_at HS.out (by omega:0<l.length)
   obtain ⟨pi,ci,hargs,q0,q1,q2,q3,q4,q5,q6⟩:=hcells k hlt
   replace q0:=(hbr.cell (p:=⟨b,off+k*7,none⟩) hR).trans q0
   replace q1:=(hbr.cell (p:=⟨b,off+k*7+1,none⟩) hR).trans q1
   replace q2:=(hbr.cell (p:=⟨b,off+k*7+2,none⟩) hR).trans q2
   replace q3:=(hbr.cell (p:=⟨b,off+k*7+3,none⟩) hR).trans q3
   replace q4:=(hbr.cell (p:=⟨b,off+k*7+4,none⟩) hR).trans q4
   replace q5:=(hbr.cell (p:=⟨b,off+k*7+5,none⟩) hR).trans q5
   replace q6:=(hbr.cell (p:=⟨b,off+k*7+6,none⟩) hR).trans q6
   have HSN:=hid (show instrLs (l.take (k+1))=T++[(instrM l[k]).1] from by rw [List.take_succ_eq_append_getElem hlt];unfold instrLs at HTD ⊢;rw [List.map_append,HTD.out];rfl)
   have HCL:=hid (show T.length<=100000 from by rw [<- HTD.out];unfold instrLs;rw [List.length_map,List.length_take];have:=HL.out;omega)
   have HQX:=hid (HQ.out l[k] (List.getElem_mem hlt))
   have HAR:=hid (hargs.below hbr)
   have HLT:=hid hlt
   clear hcells hargs hR hbr hga HTD
   generalize l[k]=x at *
   clear hlt
   have HRI:=hid (rinstr_any x (.slice pi x.args.length ci) wr HQX.1 HQX.2.1 HQX.2.2.1 HQX.2.2.2.1 HQX.2.2.2.2 HAR.out)
   obtain ⟨y,hy⟩:∃ y,(instrM x).1=y:=⟨_,rfl⟩
   rw [hy] at HSN HRI
   clear hy
   have hlt:=HLT.out
   go_wp2_with (first
    | (go_at_call 63;(with_reducible refine HRI.out.mono ?_);rintro e w1 ⟨rfl,hb1⟩;have HB1:=hid (HBO.out.trans (hb1.mono HBO.out.size));have HG1:=hid (HGO.out.keep hb1);clear hb1)
    | (at_builtin;refine wpList_push (K:=kStr) (x:=y) (cs:=[.string ⟨y.toArray⟩]) (te:=9) rfl _ _ 22 rfl Tryz.underlying22 _ 16 info_strG rfl HG1.out rfl rfl rfl (by have:=HCL.out;omega) (by have:=HCL.out;unfold maxLen;omega) HB1.out.size ?_;intro v5 w5 hg5 hgr5 hm5;have HG5:=hid hg5;have HB5:=hid (below_push HG1.out HB1.out hgr5 HB1.out.size);clear hg5 hgr5 hm5))
   go_roundw
   case rel=>exact ⟨k+1,HLT.out,by rw [wrap_next HLT.out HS.len],by rw [HSN.out];exact HG5.out,HB5.out⟩
   case measure=>exact meas_next HLT.out HS.len
  ·obtain rfl:k=l.length:=by omega
   have HCL:=hid (show T.length<=100000 from by rw [<- HTD.out];unfold instrLs;rw [List.length_map,List.length_take];have:=HL.out;omega)
   clear hlt hbr hga
   go_wp2_with (at_builtin;refine wpList_push (K:=kStr) (x:=wEnd) (cs:=[.string ⟨wEnd.toArray⟩]) (te:=9) rfl _ _ 22 rfl Tryz.underlying22 _ 16 info_strG rfl HGO.out rfl rfl rfl (by have:=HCL.out;omega) (by have:=HCL.out;unfold maxLen;omega) HBO.out.size ?_;intro v5 w5 hg5 hgr5 hm5;have HG5:=hid hg5;have HB5:=hid (below_push HGO.out HBO.out hgr5 HBO.out.size);clear hg5 hgr5 hm5)
   go_ret
   have hT:=HTD.out
   rw [List.take_length] at hT
   exact ⟨_,rfl,by rw [hT];exact HG5.out,HB5.out⟩
def hdLs (p:Pg):List Bs:=[jn [wWidth,Lib.itoa p.width]]
def chLs (l:List Bs):List Bs:=l.map fun c=>jn [wChan,c]
def arLs (l:List Ar):List Bs:=l.map fun a=>jn [wArray,a.nm,Lib.itoa a.size]
def fuLs (l:List Fu):List Bs:=l.flatMap funcT
theorem lines_eq (p:Pg):linesT p=((hdLs p++chLs p.chans)++arLs p.arrays)++fuLs p.funcs++([wMain]++bodyT p.main):=by
 unfold linesT hdLs chLs arLs fuLs
 simp [List.append_assoc]
theorem chLs_next (l:List Bs) (k:Nat) (h:k<l.length):chLs (l.take (k+1))=chLs (l.take k)++[jn [wChan,l[k]]]:=by unfold chLs;rw [List.take_succ_eq_append_getElem h,List.map_append];rfl
theorem arLs_next (l:List Ar) (k:Nat) (h:k<l.length):arLs (l.take (k+1))=arLs (l.take k)++[jn [wArray,(l[k]).nm,Lib.itoa (l[k]).size]]:=by unfold arLs;rw [List.take_succ_eq_append_getElem h,List.map_append];rfl
theorem fuLs_next (l:List Fu) (k:Nat) (h:k<l.length):fuLs (l.take (k+1))=(fuLs (l.take k)++[jn (wFunc :: (l[k]).nm :: (l[k]).params)])++bodyT (l[k]).code:=by
 unfold fuLs
 rw [List.take_succ_eq_append_getElem h,List.flatMap_append]
 simp [funcT]
theorem jn2 (a b:Bs):jn [a,b]=a++[32]++b:=by simp [jn,Lib.join,Lib.joinTail]
theorem jn3 (a b c:Bs):jn [a,b,c]=a++[32]++b++[32]++c:=by simp [jn,Lib.join,Lib.joinTail]
theorem wd_cat (s:Bs):(⟨#[119,105,100,116,104,32]⟩:ByteArray)++⟨s.toArray⟩=⟨(jn [wWidth,s]).toArray⟩:=by
 rw [show (⟨#[119,105,100,116,104,32]⟩:ByteArray)=⟨[119,105,100,116,104,32].toArray⟩ from rfl,ByteArray.mk_append_mk,jn2];simp [wWidth]
theorem ch_cat (s:Bs):(⟨#[99,104,97,110,32]⟩:ByteArray)++⟨s.toArray⟩=⟨(jn [wChan,s]).toArray⟩:=by
 rw [show (⟨#[99,104,97,110,32]⟩:ByteArray)=⟨[99,104,97,110,32].toArray⟩ from rfl,ByteArray.mk_append_mk,jn2];simp [wChan]
theorem ar_cat (s d:Bs):((⟨#[97,114,114,97,121,32]⟩:ByteArray)++⟨s.toArray⟩)++⟨#[32]⟩++⟨d.toArray⟩=⟨(jn [wArray,s,d]).toArray⟩:=by
 rw [show (⟨#[97,114,114,97,121,32]⟩:ByteArray)=⟨[97,114,114,97,121,32].toArray⟩ from rfl,ByteArray.mk_append_mk,show (⟨#[32]⟩:ByteArray)=⟨[32].toArray⟩ from rfl,ByteArray.mk_append_mk,ByteArray.mk_append_mk,jn3];simp [wArray]
structure VP (p:Pg):Prop where
 width:1<=p.width/\p.width<=64
 nch:p.chans.length<=32
 chs:∀ s ∈ p.chans,s.length<=32
 nar:p.arrays.length<=32
 ars:∀ a ∈ p.arrays,a.nm.length<=32/\1<=a.size/\a.size<=64
 nfs:p.funcs.length<=32
 fs:∀ f ∈ p.funcs,f.nm.length<=32/\(∀ q ∈ f.params,q.length<=32)/\f.params.length<=32/\f.code.length<=1024/\instrLs f.code++[wEnd]=bodyT f.code
 nmain:p.main.length<=1024
 main:instrLs p.main++[wEnd]=bodyT p.main
theorem instrLs_body (l:List In) (h:∀ x ∈ l,formB x=true):instrLs l++[wEnd]=bodyT l:=by
 unfold instrLs bodyT
 congr 1
 refine List.map_congr_left fun x hx=>?_
 unfold instrM;rw [if_pos (h x hx)]
theorem vp_of (p:Pg) (h:(checkM p).2=0):VP p:=by
 obtain ⟨ls,s1,ml,s2,hw,c2,hch,c3,har,c4,hf,c5,hm⟩:=check_parts p h
 have hff:=funcs_form _ _ _ _ _ _ hf
 have hmm:=body_form _ _ _ _ _ hm
 refine ⟨hw,c2,fun s hs=>named_len (decl_named _ _ _ hch s hs),c3,fun a ha=>?_,c4,fun f hf=>?_,c5,instrLs_body _ hmm⟩
 ·obtain ⟨h1,h2⟩:=arrs_named _ _ har a ha
  exact ⟨named_len h1,h2⟩
 ·obtain ⟨h1,h2,h3,h4,h5⟩:=hff f hf
  exact ⟨named_len h1,fun q hq=>named_len (h2 q hq),h3,h4,instrLs_body _ h5⟩
theorem fuLs_len (p:Pg) (hv:VP p) (k:Nat):(fuLs (p.funcs.take k)).length<=40000:=by
 have h1:=flat_len (p.funcs.take k) 1026 fun f hf=>by
  obtain ⟨_,_,_,h4,_⟩:=hv.fs f (List.mem_of_mem_take hf)
  unfold funcT bodyT
  simp only [List.length_cons,List.length_append,List.length_map,List.length_nil]
  omega
 have h2:(p.funcs.take k).length<=32:=by rw [List.length_take];have:=hv.nfs;omega
 have h3:(p.funcs.take k).length*1026<=32*1026:=Nat.mul_le_mul_right _ h2
 unfold fuLs
 omega
theorem text_next (L:List Bs) (k:Nat) (h:k<L.length):textT (L.take (k+1))=textT (L.take k)++L[k]++[10]:=by
 rw [List.take_succ_eq_append_getElem h,textT_app,textT_one,List.append_assoc]
end Go.Proofs.YtoofbgoeipijcaaGreatDoor
