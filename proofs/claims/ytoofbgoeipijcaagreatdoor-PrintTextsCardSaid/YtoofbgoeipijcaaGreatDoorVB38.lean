/-
 Reading programs: the plain model of package parse (no program in sight).
-/
import Derived.Test.YtoofbgoeipijcaaGreatDoorVB5
import Derived.Test.YtoofbgoeipijcaaGreatDoorVB16
import Derived.Lib.ItoaNum
import Derived.Test.YtoofbgoeipijcaaGreatDoorVB10
import Derived.Lib.ItoaLen
import Derived.Test.YtoofbgoeipijcaaGreatDoorVSTkN
import Derived.Lib.Join
import Derived.Test.YtoofbgoeipijcaaGreatDoorVB2
import Derived.Lib.Split
import Derived.Lib.SplitLaws
namespace Go.Proofs.YtoofbgoeipijcaaGreatDoor
set_option linter.unusedSimpArgs false
set_option linter.unusedVariables false
open Go.RowKit Go.Shelf
open Go.Lib
def NumA (a:Ag):Prop:=a.num≤18446744073709551615
def NumI (x:In):Prop:=∀ a ∈ x.args,NumA a
def OkW (n:Nat) (line:Bs) (x:Wd):Prop:=x.2.1=n∧1≤x.2.2∧x.1 <+: line.drop (x.2.2 - 1)
structure LtI (n:Nat) (line pre:Bs) (cur:Option (Bs × Nat)) (acc:List Wd):Prop where
 ok:∀ x ∈ acc,OkW n line x
 inc:acc.Pairwise (fun a b=>a.2.2<b.2.2)
 le:∀ x ∈ acc,x.2.2≤pre.length
 cur:∀ u c,cur=some (u,c)→1≤c∧c≤pre.length∧pre.drop (c - 1)=u∧∀ x ∈ acc,x.2.2<c
theorem LtI.flush {n:Nat} {line pre t:Bs} {cur:Option (Bs × Nat)} {acc:List Wd} (h:LtI n line pre cur acc) (hl:line=pre++t):(∀ x ∈ flushW n cur acc,OkW n line x)∧(flushW n cur acc).Pairwise (fun a b=>a.2.2<b.2.2)∧∀ x ∈ flushW n cur acc,x.2.2≤pre.length:=by
 cases cur with
 | none=>exact ⟨h.ok,h.inc,h.le⟩
 | some q =>
  obtain ⟨u,c⟩:=q
  obtain ⟨h1,h2,h3,h4⟩:=h.cur u c rfl
  refine ⟨fun x hx=>?_,?_,fun x hx=>?_⟩
  ·rcases List.mem_append.1 hx with hx | hx
   ·exact h.ok x hx
   ·obtain rfl:=List.mem_singleton.1 hx
    refine ⟨rfl,h1,?_⟩
    rw [hl,List.drop_append_of_le_length (by show c - 1≤_;omega),show (c:Nat) - 1=c - 1 from rfl]
    show u <+: pre.drop (c - 1)++t
    rw [h3];exact List.prefix_append _ _
  ·refine List.pairwise_append.2 ⟨h.inc,List.pairwise_singleton _ _,fun a ha b hb=>?_⟩
   obtain rfl:=List.mem_singleton.1 hb
   exact h4 a ha
  ·rcases List.mem_append.1 hx with hx | hx
   ·exact h.le x hx
   ·obtain rfl:=List.mem_singleton.1 hx
    exact h2
theorem LtI.sep {n:Nat} {line pre t:Bs} {cur:Option (Bs × Nat)} {acc:List Wd} {c:UInt8} (h:LtI n line pre cur acc) (hl:line=pre++t):LtI n line (pre++[c]) none (flushW n cur acc):=by
 obtain ⟨h1,h2,h3⟩:=h.flush hl
 exact ⟨h1,h2,fun x hx=>by have:=h3 x hx;simp;omega,fun u c e=>by cases e⟩
theorem LtI.grow {n:Nat} {line pre:Bs} {cur:Option (Bs × Nat)} {acc:List Wd} {c:UInt8} (h:LtI n line pre cur acc):LtI n line (pre++[c]) (grow c pre.length cur) acc:=by
 refine ⟨h.ok,h.inc,fun x hx=>by have:=h.le x hx;simp;omega,?_⟩
 cases cur with
 | none =>
  intro u k e
  simp only [Go.Proofs.YtoofbgoeipijcaaGreatDoor.grow,Option.some.injEq,Prod.mk.injEq] at e
  obtain ⟨rfl,rfl⟩:=e
  exact ⟨by omega,by simp,by simp,fun x hx=>by have:=h.le x hx;omega⟩
 | some q =>
  obtain ⟨t,k⟩:=q
  intro u k' e
  simp only [Go.Proofs.YtoofbgoeipijcaaGreatDoor.grow,Option.some.injEq,Prod.mk.injEq] at e
  obtain ⟨rfl,rfl⟩:=e
  obtain ⟨h1,h2,h3,h4⟩:=h.cur t k rfl
  exact ⟨h1,by simp;omega,by rw [List.drop_append_of_le_length (by omega),h3],h4⟩
structure RowOk (rows:List Bs) (n:Nat) (ws:List Wd):Prop where
 ne:ws ≠ []
 at':∃ j,∃ h:j<rows.length,∀ x ∈ ws,OkW (n+j) rows[j] x
 inc:ws.Pairwise (fun a b=>a.2.2<b.2.2)
theorem RowOk.line {rows:List Bs} {n:Nat} {ws:List Wd} (h:RowOk rows n ws):∃ L,n≤L∧∀ x ∈ ws,x.2.1=L:=by
 obtain ⟨_,⟨j,_,h2⟩,_⟩:=h
 exact ⟨n+j,by omega,fun x hx=>(h2 x hx).1⟩
def bareI (x:In):In:={ x with pos:=(0,0) }
def bareF (f:Fu):Fu:={ f with code:=f.code.map bareI,pos:=(0,0) }
structure NumP (p:Pg):Prop where
 funcs:∀ f ∈ p.funcs,∀ x ∈ f.code,NumI x
 main:∀ x ∈ p.main,NumI x
structure Parts (p:Pg) (ls:List (List Bs)) (s1 ml s2:List Bs):Prop where
 width:1≤p.width∧p.width≤64
 nch:p.chans.length≤32
 ch:declM (0,0) [] p.chans=none
 nar:p.arrays.length≤32
 ar:arrsM [] p.arrays=none
 nfs:p.funcs.length≤32
 fs:funcsM p.chans (p.arrays.map Ar.nm) [] [] [] p.funcs = .ok (ls,s1)
 nmain:p.main.length≤1024
 main:bodyM p.chans (p.arrays.map Ar.nm) true p.main [] s1 = .ok (ml,s2)
theorem check_parts (p:Pg) (h:(checkM p).2=0):∃ ls s1 ml s2,Parts p ls s1 ml s2:=by
 unfold checkM at h
 by_cases c1:p.width<1∨64<p.width
 ·rw [if_pos c1] at h;cases h
 rw [if_neg c1] at h
 by_cases c2:32<p.chans.length
 ·rw [if_pos c2] at h;cases h
 rw [if_neg c2] at h
 cases hch:declM (0,0) [] p.chans with
 | some f =>
  rw [hch] at h
  simp only at h
  exfalso
  have:∀ (l seen:List Bs) (f:Flt),declM (0,0) seen l=some f→f.2 ≠ 0:=by
   intro l
   induction l with
   | nil=>intro seen f h;cases h
   | cons a r ih =>
    intro seen f h
    unfold declM at h
    split at h
    ·cases h;simp
    ·split at h
     ·cases h;simp
     ·exact ih _ _ h
  exact this _ _ _ hch h
 | none =>
 rw [hch] at h
 simp only at h
 by_cases c3:32<p.arrays.length
 ·rw [if_pos c3] at h;cases h
 rw [if_neg c3] at h
 cases har:arrsM [] p.arrays with
 | some f =>
  rw [har] at h
  simp only at h
  exfalso
  have:∀ (l:List Ar) (seen:List Bs) (f:Flt),arrsM seen l=some f→f.2 ≠ 0:=by
   intro l
   induction l with
   | nil=>intro seen f h;cases h
   | cons a r ih =>
    intro seen f h
    unfold arrsM at h
    split at h
    ·cases h;simp
    ·split at h
     ·cases h;simp
     ·split at h
      ·cases h;simp
      ·exact ih _ _ h
  exact this _ _ _ har h
 | none =>
 rw [har] at h
 simp only at h
 by_cases c4:32<p.funcs.length
 ·rw [if_pos c4] at h;cases h
 rw [if_neg c4] at h
 have hstep0:∀ (ch ar:List Bs) (m:Bool) (l s:List Bs) (x:In) (f:Flt),stepM ch ar m l s x = .error f→f.2 ≠ 0:=by
  intro ch ar m l s x f h
  unfold stepM at h
  split at h
  ·cases h;simp
  ·split at h
   ·split at h
    ·cases h
    ·cases h;simp
   ·split at h
    ·split at h
     ·cases h
     ·cases h;simp
    ·split at h
     ·split at h
      ·cases h;simp
      ·cases h
     ·split at h
      ·split at h
       ·cases h
       ·split at h
        ·cases h
        ·cases h;simp
      ·cases h
 have hbody0:∀ (ch ar:List Bs) (m:Bool) (code:List In) (l s:List Bs) (f:Flt),bodyM ch ar m code l s = .error f→f.2 ≠ 0:=by
  intro ch ar m code
  induction code with
  | nil=>intro l s f h;cases h
  | cons x r ih =>
   intro l s f h
   unfold bodyM at h
   cases e:stepM ch ar m l s x with
   | error g=>rw [e] at h;simp only at h;cases h;exact hstep0 _ _ _ _ _ _ _ e
   | ok q=>rw [e] at h;exact ih _ _ _ h
 have hins0:∀ (ch ar:List Bs) (m:Bool) (q:Int × Int) (code:List In) (s:List Bs) (f:Flt),instrsM ch ar m q code s = .error f→f.2 ≠ 0:=by
  intro ch ar m q code s f h
  unfold instrsM at h
  split at h
  ·cases h;simp
  ·exact hbody0 _ _ _ _ _ _ _ h
 have hfun0:∀ (ch ar:List Bs) (l:List Fu) (seen:List Bs) (ls:List (List Bs)) (s:List Bs) (f:Flt),funcsM ch ar seen ls s l = .error f→f.2 ≠ 0:=by
  intro ch ar l
  induction l with
  | nil=>intro seen ls s f h;cases h
  | cons g r ih =>
   intro seen ls s f h
   unfold funcsM at h
   split at h
   ·cases h;simp
   ·split at h
    ·cases h;simp
    ·split at h
     ·cases h;simp
     ·split at h
      ·rename_i x e
       cases h
       have:∀ (l seen:List Bs) (q:Int × Int) (f:Flt),declM q seen l=some f→f.2 ≠ 0:=by
        intro l
        induction l with
        | nil=>intro seen q f h;cases h
        | cons a r ih =>
         intro seen q f h
         unfold declM at h
         split at h
         ·cases h;simp
         ·split at h
          ·cases h;simp
          ·exact ih _ _ _ h
       exact this _ _ _ _ e
      ·split at h
       ·rename_i e;cases h;exact hins0 _ _ _ _ _ _ _ e
       ·exact ih _ _ _ _ h
 cases hf:funcsM p.chans (p.arrays.map Ar.nm) [] [] [] p.funcs with
 | error f=>rw [hf] at h;exact absurd h (hfun0 _ _ _ _ _ _ _ hf)
 | ok q =>
 obtain ⟨ls,s1⟩:=q
 rw [hf] at h
 simp only at h
 cases hm:instrsM p.chans (p.arrays.map Ar.nm) true (0,0) p.main s1 with
 | error f=>rw [hm] at h;exact absurd h (hins0 _ _ _ _ _ _ _ hm)
 | ok q =>
 obtain ⟨ml,s2⟩:=q
 clear h
 unfold instrsM at hm
 by_cases c5:1024<p.main.length
 ·rw [if_pos c5] at hm;cases hm
 rw [if_neg c5] at hm
 exact ⟨ls,s1,ml,s2,⟨by omega,by omega⟩,by omega,hch,by omega,har,by omega,hf,by omega,hm⟩
theorem jn_one (w:Bs):jn [w]=w:=by unfold jn;rw [Lib.join_cons];simp [Lib.joinTail]
theorem decl_named (q:Int × Int):∀ (l seen:List Bs),declM q seen l=none→∀ s ∈ l,namedB s=true
 | [],_,_=>by simp
 | x :: r,seen,h=>by
  unfold declM at h
  split at h
  ·cases h
  ·rename_i c
   split at h
   ·cases h
   ·intro s hs
    rcases List.mem_cons.1 hs with rfl | hs
    ·simpa using c
    ·exact decl_named q r _ h s hs
theorem arrs_named:∀ (l:List Ar) (seen:List Bs),arrsM seen l=none→∀ a ∈ l,namedB a.nm=true∧1≤a.size∧a.size≤64
 | [],_,_=>by simp
 | x :: r,seen,h=>by
  unfold arrsM at h
  split at h
  ·cases h
  ·rename_i c
   split at h
   ·cases h
   ·split at h
    ·cases h
    ·rename_i c3
     intro s hs
     rcases List.mem_cons.1 hs with rfl | hs
     ·exact ⟨by simpa using c,by omega,by omega⟩
     ·exact arrs_named r _ h s hs
theorem step_form {ch ar:List Bs} {m:Bool} {l s l' s':List Bs} {x:In} (h:stepM ch ar m l s x = .ok (l',s')):formB x=true:=by
 unfold stepM at h
 split at h
 ·cases h
 ·rename_i c
  cases hx:formB x with
  | true=>rfl
  | false=>rw [hx] at c;simp at c
theorem body_form {ch ar:List Bs} {m:Bool}:∀ (code:List In) (l s l' s':List Bs),bodyM ch ar m code l s = .ok (l',s')→∀ x ∈ code,formB x=true
 | [],_,_,_,_,_=>by simp
 | y :: r,l,s,l',s',h=>by
  unfold bodyM at h
  cases e:stepM ch ar m l s y with
  | error f=>rw [e] at h;cases h
  | ok q =>
   obtain ⟨l1,s1⟩:=q
   rw [e] at h
   intro x hx
   rcases List.mem_cons.1 hx with rfl | hx
   ·exact step_form e
   ·exact body_form r l1 s1 l' s' h x hx
theorem funcs_form {ch ar:List Bs}:∀ (l:List Fu) (seen:List Bs) (ls:List (List Bs)) (s:List Bs) (ls':List (List Bs)) (s':List Bs),funcsM ch ar seen ls s l = .ok (ls',s') →
  ∀ f ∈ l,namedB f.nm=true∧(∀ q ∈ f.params,namedB q=true)∧f.params.length≤32∧f.code.length≤1024∧∀ x ∈ f.code,formB x=true
 | [],_,_,_,_,_,_=>by simp
 | g :: r,seen,ls,s,ls',s',h=>by
  unfold funcsM at h
  by_cases c1:namedB g.nm=false
  ·rw [if_pos c1] at h;cases h
  rw [if_neg c1] at h
  by_cases c2:seen.contains g.nm=true
  ·rw [if_pos c2] at h;cases h
  rw [if_neg c2] at h
  by_cases c3:32<g.params.length
  ·rw [if_pos c3] at h;cases h
  rw [if_neg c3] at h
  cases hd:declM g.pos [] g.params with
  | some x=>rw [hd] at h;cases h
  | none =>
   rw [hd] at h
   simp only at h
   unfold instrsM at h
   by_cases c4:1024<g.code.length
   ·rw [if_pos c4] at h;cases h
   rw [if_neg c4] at h
   cases hbm:bodyM ch ar false g.code [] s with
   | error x=>rw [hbm] at h;cases h
   | ok q' =>
    obtain ⟨l1,s1⟩:=q'
    rw [hbm] at h
    intro f hf
    rcases List.mem_cons.1 hf with rfl | hf
    ·exact ⟨by simpa using c1,decl_named _ _ _ hd,by omega,by omega,body_form _ _ _ _ _ hbm⟩
    ·exact funcs_form r _ _ _ _ _ h f hf
end Go.Proofs.YtoofbgoeipijcaaGreatDoor
