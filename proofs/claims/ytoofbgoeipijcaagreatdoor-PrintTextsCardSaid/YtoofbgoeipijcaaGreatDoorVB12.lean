/-
 Programs: functions that call themselves: both searches find them (plain).
-/
import Derived.Test.YtoofbgoeipijcaaGreatDoorVSPrQ
import Derived.Test.YtoofbgoeipijcaaGreatDoorVB9
namespace Go.Proofs.YtoofbgoeipijcaaGreatDoor
set_option linter.unusedSimpArgs false
set_option linter.unusedVariables false
open Go.RowKit Go.Shelf
theorem nodup_le {α:Type} [DecidableEq α]:∀ (l m:List α),l.Nodup→(∀ x ∈ l,x ∈ m)→l.length≤m.length
 | [],m,_,_=>Nat.zero_le _
 | x :: r,m,hn,hs=>by
  have hx:=hs x (List.mem_cons_self ..)
  have hn':=List.nodup_cons.1 hn
  have h:=nodup_le r (m.erase x) hn'.2 fun y hy=>by
   have hne:y ≠ x:=fun e=>hn'.1 (e ▸ hy)
   exact (List.mem_erase_of_ne hne).2 (hs y (List.mem_cons_of_mem _ hy))
  rw [List.length_erase_of_mem hx] at h
  have:0<m.length:=List.length_pos_of_mem hx
  simp only [List.length_cons]
  omega
inductive Rch (p:Pg) (a:Bs):Bs→Prop
 | base {b:Bs}:b ∈ callsM (codeOf p a)→Rch p a b
 | tail {b c:Bs}:Rch p a b→c ∈ callsM (codeOf p b)→Rch p a c
def namesP (p:Pg):List Bs:=p.funcs.map Fu.nm
def Closed (p:Pg):Prop:=∀ a,∀ b ∈ callsM (codeOf p a),b ∈ namesP p
theorem push_spec (name:Bs):∀ (gs seen todo:List Bs),seen.Nodup →
  (pushM name gs seen todo).1=true∧name ∈ gs ∨
  (pushM name gs seen todo).1=false∧name ∉ gs∧∃ new:List Bs,(pushM name gs seen todo).2.1=seen++new∧(pushM name gs seen todo).2.2=todo++new∧(seen++new).Nodup∧(∀ x ∈ new,x ∈ gs)∧∀ x ∈ gs,x ∈ seen++new
 | [],seen,todo,hn => .inr ⟨rfl,by simp,[],by simp [pushM],by simp [pushM],by simpa using hn,by simp,by simp⟩
 | g :: r,seen,todo,hn=>by
  unfold pushM
  by_cases c1:g=name
  ·left;rw [if_pos c1];exact ⟨rfl,by rw [c1];exact List.mem_cons_self ..⟩
  rw [if_neg c1]
  by_cases c2:seen.contains g=true
  ·rw [if_pos c2]
   rcases push_spec name r seen todo hn with ⟨h1,h2⟩ | ⟨h1,h2,new,h3,h4,h5,h6,h7⟩
   ·exact .inl ⟨h1,List.mem_cons_of_mem _ h2⟩
   ·refine .inr ⟨h1,fun h=>?_,new,h3,h4,h5,fun x hx=>List.mem_cons_of_mem _ (h6 x hx),fun x hx=>?_⟩
    ·rcases List.mem_cons.1 h with h | h
     ·exact c1 h.symm
     ·exact h2 h
    ·rcases List.mem_cons.1 hx with h | h
     ·rw [h];exact List.mem_append_left _ (List.contains_iff_mem.1 c2)
     ·exact h7 x h
  ·rw [if_neg c2]
   have hnm:g ∉ seen:=fun h=>c2 (List.contains_iff_mem.2 h)
   have hn2:(seen++[g]).Nodup:=by
    rw [List.nodup_append]
    exact ⟨hn,by simp,fun a ha b hb e=>by rw [List.mem_singleton] at hb;rw [e,hb] at ha;exact hnm ha⟩
   rcases push_spec name r (seen++[g]) (todo++[g]) hn2 with ⟨h1,h2⟩ | ⟨h1,h2,new,h3,h4,h5,h6,h7⟩
   ·exact .inl ⟨h1,List.mem_cons_of_mem _ h2⟩
   ·refine .inr ⟨h1,fun h=>?_,g :: new,by rw [h3];simp,by rw [h4];simp,by simpa using h5,fun x hx=>?_,fun x hx=>?_⟩
    ·rcases List.mem_cons.1 h with h | h
     ·exact c1 h.symm
     ·exact h2 h
    ·rcases List.mem_cons.1 hx with h | h
     ·rw [h];exact List.mem_cons_self ..
     ·exact List.mem_cons_of_mem _ (h6 x h)
    ·rcases List.mem_cons.1 hx with h | h
     ·rw [h];simp
     ·have:=h7 x h;simpa using this
theorem loops_spec (p:Pg) (hc:Closed p) (name:Bs):∀ (k:Nat) (seen todo:List Bs),seen.Nodup→(∀ s ∈ seen,s ∈ namesP p)→(∀ s ∈ seen,Rch p name s)→(∀ t ∈ todo,t=name∨t ∈ seen)→name ∉ seen →
  (∀ a,(a=name∨a ∈ seen)→a ∉ todo→∀ b ∈ callsM (codeOf p a),b ∈ seen)→2*(p.funcs.length - seen.length)+todo.length+1≤k→(loopsM p name k seen todo=true ↔ Rch p name name)
 | 0,seen,todo,_,_,_,_,_,_,hk=>by omega
 | k+1,seen,todo,hn,hs,hr,ht,hns,hcl,hk=>by
  unfold loopsM
  by_cases c:todo=[]
  ·rw [if_pos c]
   subst c
   refine ⟨fun h=>(by cases h),fun h=>?_⟩
   have hall:∀ b,Rch p name b→b ∈ seen:=by
    intro b hb
    induction hb with
    | base h=>exact hcl name (.inl rfl) (by simp) _ h
    | tail _ h ih=>exact hcl _ (.inr ih) (by simp) _ h
   exact absurd (hall _ h) hns
  rw [if_neg c]
  have hlast:todo.getLastD []=todo.getLast c:=by rw [List.getLastD_eq_getLast?,List.getLast?_eq_some_getLast c];rfl
  obtain ⟨f,hf⟩:∃ f,todo.getLast c=f:=⟨_,rfl⟩
  rw [hlast,hf]
  have htodo:todo=todo.dropLast++[f]:=by rw [← hf];exact (List.dropLast_concat_getLast c).symm
  have hfm:f=name∨f ∈ seen:=ht f (by rw [htodo];simp)
  have hreach:∀ b ∈ callsM (codeOf p f),Rch p name b:=fun b hb=>by
   rcases hfm with e | e
   ·subst e;exact .base hb
   ·exact .tail (hr f e) hb
  have hlen:todo.length=todo.dropLast.length+1:=by
   have:=congrArg List.length htodo
   simpa using this
  rcases push_spec name (callsM (codeOf p f)) seen todo.dropLast hn with ⟨h1,h2⟩ | ⟨h1,h2,new,h3,h4,h5,h6,h7⟩
  ·simp only [h1,if_true,true_iff]
   exact hreach name h2
  ·simp only [h1,Bool.false_eq_true,if_false,h3,h4]
   have hsn:∀ s ∈ seen++new,s ∈ namesP p:=fun s h=>by
    rcases List.mem_append.1 h with h | h
    ·exact hs s h
    ·exact hc f s (h6 s h)
   have hle:=nodup_le (seen++new) (namesP p) h5 hsn
   rw [List.length_append,show (namesP p).length=p.funcs.length by simp [namesP]] at hle
   refine loops_spec p hc name k (seen++new) (todo.dropLast++new) h5 hsn (fun s h=>?_) (fun t h=>?_) (fun h=>?_) (fun a ha hna b hb=>?_) ?_
   ·rcases List.mem_append.1 h with h | h
    ·exact hr s h
    ·exact hreach s (h6 s h)
   ·rcases List.mem_append.1 h with h | h
    ·rcases ht t (by rw [htodo];exact List.mem_append_left _ h) with e | e
     ·exact .inl e
     ·exact .inr (List.mem_append_left _ e)
    ·exact .inr (List.mem_append_right _ h)
   ·rcases List.mem_append.1 h with h | h
    ·exact hns h
    ·exact h2 (h6 _ h)
   ·by_cases e:a=f
    ·subst e;exact h7 b hb
    ·have hnt:a ∉ todo:=fun h=>by
      rw [htodo] at h
      rcases List.mem_append.1 h with h | h
      ·exact hna (List.mem_append_left _ h)
      ·exact e (List.mem_singleton.1 h)
     have ha':a=name∨a ∈ seen:=by
      rcases ha with h | h
      ·exact .inl h
      ·rcases List.mem_append.1 h with h | h
       ·exact .inr h
       ·exact absurd (List.mem_append_right _ h) hna
     exact List.mem_append_left _ (hcl a ha' hnt b hb)
   ·rw [List.length_append,List.length_append];omega
theorem loopB_iff (p:Pg) (hc:Closed p) (name:Bs):loopB p name=true ↔ Rch p name name:=by
 unfold loopB
 refine loops_spec p hc name _ [] [name] List.nodup_nil (by simp) (by simp) (by simp) (by simp) (fun a ha hna=>?_) (by simp)
 rcases ha with h | h
 ·exact absurd (by simp [h]) hna
 ·cases h
def findM (p:Pg) (s:Bs):Option Nat:=p.funcs.findIdx? fun f=>decide (f.nm=s)
def codeAt (p:Pg) (i:Nat):List In:=((p.funcs[i]?).map Fu.code).getD []
def rpush (p:Pg):List Bs→List Bool→List Nat→List Bool × List Nat
 | [],out,todo=>(out,todo)
 | c :: r,out,todo=>match findM p c with
  | some g=>if out.getD g false then rpush p r out todo else rpush p r (out.set g true) (todo++[g])
  | none=>rpush p r out todo
def rreach (p:Pg):Nat→List Bool→List Nat→List Bool
 | 0,out,_=>out
 | k+1,out,[]=>out
 | k+1,out,f :: t=>let r:=rpush p (callsM (codeAt p f)) out t;rreach p k r.1 r.2
def rloopB (p:Pg) (i:Nat):Bool:=(rreach p (2*p.funcs.length+3) (List.replicate p.funcs.length false) [i]).getD i false
theorem find_some {p:Pg} {s:Bs} {g:Nat} (h:findM p s=some g):∃ hg:g<p.funcs.length,p.funcs[g].nm=s:=by
 unfold findM at h
 rw [List.findIdx?_eq_some_iff_getElem] at h
 obtain ⟨hg,h1,_⟩:=h
 exact ⟨hg,by simpa using h1⟩
theorem find_mem {p:Pg} {s:Bs} (h:s ∈ namesP p):∃ g,findM p s=some g:=by
 cases e:findM p s with
 | some g=>exact ⟨g,rfl⟩
 | none =>
  unfold findM at e
  rw [List.findIdx?_eq_none_iff] at e
  obtain ⟨f,hf,rfl⟩:=List.mem_map.1 h
  have:=e f hf
  simp at this
def Apart (p:Pg):Prop:=(namesP p).Nodup
theorem find_at {p:Pg} (hd:Apart p) {i:Nat} (hi:i<p.funcs.length):findM p p.funcs[i].nm=some i:=by
 obtain ⟨g,hg⟩:=find_mem (p:=p) (s:=p.funcs[i].nm) (List.mem_map.2 ⟨_,List.getElem_mem hi,rfl⟩)
 obtain ⟨hlt,he⟩:=find_some hg
 have:g=i:=by
  have hl1:g<(namesP p).length:=by simpa [namesP] using hlt
  have hl2:i<(namesP p).length:=by simpa [namesP] using hi
  refine (List.getElem_inj (xs:=namesP p) (h₀:=hl1) (h₁:=hl2) hd).1 ?_
  simp only [namesP,List.getElem_map]
  exact he
 rw [hg,this]
theorem codeOf_at {p:Pg} (hd:Apart p) {i:Nat} (hi:i<p.funcs.length):codeOf p p.funcs[i].nm=codeAt p i:=by
 have h:=find_at hd hi
 unfold findM at h
 unfold codeOf codeAt
 rw [List.getElem?_eq_getElem hi]
 have h2:p.funcs.find? (fun f=>decide (f.nm=p.funcs[i].nm))=some p.funcs[i]:=by
  rw [List.find?_eq_some_iff_getElem]
  rw [List.findIdx?_eq_some_iff_getElem] at h
  obtain ⟨hg,h1,h2⟩:=h
  exact ⟨h1,i,hi,rfl,fun j hj=>by simpa using h2 j hj⟩
 rw [h2]
theorem rpush_spec (p:Pg):∀ (cs:List Bs) (out:List Bool) (todo:List Nat),out.length=p.funcs.length→(∀ c ∈ cs,c ∈ namesP p) →
  ∃ new:List Nat,(rpush p cs out todo).2=todo++new∧(rpush p cs out todo).1.length=p.funcs.length∧(rpush p cs out todo).1.count false+new.length=out.count false ∧
   (∀ g ∈ new,∃ c ∈ cs,findM p c=some g)∧(∀ g,(rpush p cs out todo).1.getD g false=true ↔ (out.getD g false=true∨g ∈ new))∧∀ c ∈ cs,∃ g,findM p c=some g∧(rpush p cs out todo).1.getD g false=true
 | [],out,todo,hl,_=>⟨[],by simp [rpush],hl,by simp [rpush],by simp,by simp [rpush],by simp⟩
 | c :: r,out,todo,hl,hc=>by
  obtain ⟨g,hg⟩:=find_mem (hc c (List.mem_cons_self ..))
  obtain ⟨hlt,_⟩:=find_some hg
  have hc':∀ d ∈ r,d ∈ namesP p:=fun d hd=>hc d (List.mem_cons_of_mem _ hd)
  unfold rpush
  simp only [hg]
  by_cases e:out.getD g false=true
  ·rw [if_pos e]
   obtain ⟨new,h1,h2,h3,h4,h5,h6⟩:=rpush_spec p r out todo hl hc'
   refine ⟨new,h1,h2,h3,fun x hx=>?_,h5,fun d hd=>?_⟩
   ·obtain ⟨d,hd,h⟩:=h4 x hx;exact ⟨d,List.mem_cons_of_mem _ hd,h⟩
   ·rcases List.mem_cons.1 hd with h | h
    ·subst h;exact ⟨g,hg,(h5 g).2 (.inl e)⟩
    ·exact h6 d h
  ·rw [if_neg e]
   have hgl:g<out.length:=by omega
   have hof:out[g]=false:=by
    rw [List.getD_eq_getElem?_getD,List.getElem?_eq_getElem hgl] at e
    simpa using e
   obtain ⟨new,h1,h2,h3,h4,h5,h6⟩:=rpush_spec p r (out.set g true) (todo++[g]) (by simpa using hl) hc'
   have hget:∀ x,(out.set g true).getD x false=true ↔ (out.getD x false=true∨x=g):=fun x=>by
    rw [List.getD_eq_getElem?_getD,List.getD_eq_getElem?_getD,List.getElem?_set]
    by_cases hx:g=x
    ·subst hx;rw [if_pos rfl,if_pos hgl];simp
    ·rw [if_neg hx];exact ⟨.inl,fun h=>h.resolve_right fun e=>hx e.symm⟩
   have hpos:0<out.count false:=List.count_pos_iff.2 (by rw [← hof];exact List.getElem_mem hgl)
   have hcnt:(out.set g true).count false+1=out.count false:=by
    rw [List.count_set hgl,hof];simp;omega
   refine ⟨g :: new,by rw [h1];simp,h2,by rw [List.length_cons];omega,fun x hx=>?_,fun x=>?_,fun d hd=>?_⟩
   ·rcases List.mem_cons.1 hx with h | h
    ·subst h;exact ⟨c,List.mem_cons_self ..,hg⟩
    ·obtain ⟨d,hd,h⟩:=h4 x h;exact ⟨d,List.mem_cons_of_mem _ hd,h⟩
   ·rw [h5,hget,List.mem_cons,or_assoc]
   ·rcases List.mem_cons.1 hd with h | h
    ·subst h;exact ⟨g,hg,(h5 g).2 (.inl ((hget g).2 (.inr rfl)))⟩
    ·exact h6 d h
theorem rreach_spec (p:Pg) (hc:Closed p) (hd:Apart p) (i:Nat) (hi:i<p.funcs.length):∀ (k:Nat) (out:List Bool) (todo:List Nat),out.length=p.funcs.length →
  (∀ g,(hg:g<p.funcs.length)→out.getD g false=true→Rch p p.funcs[i].nm p.funcs[g].nm)→(∀ t ∈ todo,t<p.funcs.length∧(t=i∨out.getD t false=true)) →
  (∀ a,a<p.funcs.length→(a=i∨out.getD a false=true)→a ∉ todo→∀ b ∈ callsM (codeAt p a),∃ g,findM p b=some g∧out.getD g false=true)→2*out.count false+todo.length+1≤k →
  ((rreach p k out todo).getD i false=true ↔ Rch p p.funcs[i].nm p.funcs[i].nm)
 | 0,out,todo,_,_,_,_,hk=>by omega
 | k+1,out,[],hl,hr,ht,hcl,hk=>by
  unfold rreach
  refine ⟨fun h=>hr i hi h,fun h=>?_⟩
  have hall:∀ b,Rch p p.funcs[i].nm b→∃ g,findM p b=some g∧out.getD g false=true:=by
   intro b hb
   induction hb with
   | base h=>exact hcl i hi (.inl rfl) (by simp) _ (by rwa [← codeOf_at hd hi])
   | tail _ h ih =>
    obtain ⟨g,h1,h2⟩:=ih
    obtain ⟨hg,rfl⟩:=find_some h1
    exact hcl g hg (.inr h2) (by simp) _ (by rwa [← codeOf_at hd hg])
  obtain ⟨g,h1,h2⟩:=hall _ h
  rw [find_at hd hi] at h1
  cases h1
  exact h2
 | k+1,out,f :: t,hl,hr,ht,hcl,hk=>by
  unfold rreach
  obtain ⟨hf,hfm⟩:=ht f (List.mem_cons_self ..)
  have hreach:∀ b ∈ callsM (codeAt p f),Rch p p.funcs[i].nm b:=fun b hb=>by
   rw [← codeOf_at hd hf] at hb
   rcases hfm with e | e
   ·subst e;exact .base hb
   ·exact .tail (hr f hf e) hb
  have hcs:∀ c ∈ callsM (codeAt p f),c ∈ namesP p:=fun c h=>hc p.funcs[f].nm c (by rwa [codeOf_at hd hf])
  obtain ⟨new,h1,h2,h3,h4,h5,h6⟩:=rpush_spec p (callsM (codeAt p f)) out t hl hcs
  have hnew:∀ g ∈ new,∃ hg:g<p.funcs.length,Rch p p.funcs[i].nm p.funcs[g].nm:=fun g h=>by
   obtain ⟨c,hcm,hcf⟩:=h4 g h
   obtain ⟨hg,he⟩:=find_some hcf
   exact ⟨hg,by rw [he];exact hreach c hcm⟩
  refine rreach_spec p hc hd i hi k _ _ h2 (fun g hg h=>?_) (fun x h=>?_) (fun a ha hao hna b hb=>?_) ?_
  ·rcases (h5 g).1 h with h | h
   ·exact hr g hg h
   ·exact (hnew g h).2
  ·rw [h1] at h
   rcases List.mem_append.1 h with h | h
   ·obtain ⟨a,b⟩:=ht x (List.mem_cons_of_mem _ h)
    exact ⟨a,b.imp id fun e=>(h5 x).2 (.inl e)⟩
   ·exact ⟨(hnew x h).1,.inr ((h5 x).2 (.inr h))⟩
  ·rw [h1] at hna
   by_cases e:a=f
   ·subst e;exact h6 b hb
   ·have hnt:a ∉ f :: t:=fun h=>by
     rcases List.mem_cons.1 h with h | h
     ·exact e h
     ·exact hna (List.mem_append_left _ h)
    have ha':a=i∨out.getD a false=true:=by
     rcases hao with h | h
     ·exact .inl h
     ·rcases (h5 a).1 h with h | h
      ·exact .inr h
      ·exact absurd (List.mem_append_right _ h) hna
    obtain ⟨g,g1,g2⟩:=hcl a ha ha' hnt b hb
    exact ⟨g,g1,(h5 g).2 (.inl g2)⟩
  ·rw [h1,List.length_append]
   simp only [List.length_cons] at hk
   omega
theorem rloopB_iff (p:Pg) (hc:Closed p) (hd:Apart p) (i:Nat) (hi:i<p.funcs.length):rloopB p i=true ↔ Rch p p.funcs[i].nm p.funcs[i].nm:=by
 have hrep:∀ g,(List.replicate p.funcs.length false).getD g false=false:=fun g=>by
  rw [List.getD_eq_getElem?_getD,List.getElem?_replicate];split <;> rfl
 refine rreach_spec p hc hd i hi _ _ _ (by simp) (fun g hg h=>?_) (fun t h=>?_) (fun a ha hao hna=>?_) ?_
 ·rw [hrep] at h;cases h
 ·rw [List.mem_singleton] at h;subst h;exact ⟨hi,.inl rfl⟩
 ·rcases hao with h | h
  ·exact absurd (by simp [h]) hna
  ·rw [hrep] at h;cases h
 ·rw [List.count_replicate];simp
theorem loop_eq (p:Pg) (hc:Closed p) (hd:Apart p) (i:Nat) (hi:i<p.funcs.length):loopB p p.funcs[i].nm=rloopB p i:=by
 rw [Bool.eq_iff_iff,loopB_iff p hc,rloopB_iff p hc hd i hi]
end Go.Proofs.YtoofbgoeipijcaaGreatDoor
namespace Go.Proofs.YtoofbgoeipijcaaGreatDoor
set_option linter.unusedSimpArgs false
set_option linter.unusedVariables false
open Go.RowKit Go.Shelf
attribute [local go_sem] Oper.semAt_some
set_option maxRecDepth 100000 in
theorem clos_any (f:Fu) (s:Bs) (pp pc:Option Addr) (cp cc b:Nat) (w:World) (hb:w.cell? ⟨b,0,none⟩=some (.string ⟨s.toArray⟩)) :
  Calls Tryz.prog 158 #[.agg #[.string ⟨f.nm.toArray⟩,.slice pp f.params.length cp,.slice pc f.code.length cc,.int .i64 f.pos.1,.int .i64 f.pos.2],.pointer (some ⟨b,0,none⟩)] w fun e w'=>e = .returned (.bool (decide (f.nm=s)))∧Below w.heap.size w w':=by
 have hbo:∀ o,(w.alloc o).cell? ⟨b,0,none⟩=some (.string ⟨s.toArray⟩):=fun o=>(((Below.refl w.heap.size w).alloc (Nat.le_refl _) o).cell (p:=⟨b,0,none⟩) (cell_size hb)).trans hb
 clear hb
 obtain ⟨n,hn⟩:∃ n,f.nm=n:=⟨_,rfl⟩
 rw [hn]
 by_cases h:n=s
 ·subst h
  have t1:(n == n)=true:=beq_self_eq_true n
  have HD:=hid (decide_eq_true (rfl:n=n))
  clear hn
  go_enter Tryz.func158,Tryz.ntmps158
  go_wp2
  go_ret
  exact ⟨by first | rfl | (rw [HD.out];rfl),(Below.refl _ _).alloc (Nat.le_refl _) _⟩
 ·have t1:(n == s)=false:=beq_eq_false_iff_ne.2 h
  have HD:=hid (decide_eq_false h)
  clear h hn
  go_enter Tryz.func158,Tryz.ntmps158
  go_wp2
  go_ret
  exact ⟨by first | rfl | (rw [HD.out];rfl),(Below.refl _ _).alloc (Nat.le_refl _) _⟩
def idxGo (s:Bs):List Fu→Nat→Int
 | [],_ => -1
 | f :: r,k=>if f.nm=s then (k:Int) else idxGo s r (k+1)
def idxM (p:List Fu) (s:Bs):Int:=idxGo s p 0
theorem idx_find (s:Bs):∀ (l:List Fu) (k:Nat),s ∈ l.map Fu.nm→∃ i,∃ h:i<l.length,idxGo s l k=((k+i:Nat):Int)∧l.find? (fun f=>decide (f.nm=s))=some l[i]
 | [],_,h=>by simp at h
 | f :: r,k,h=>by
  unfold idxGo
  by_cases e:f.nm=s
  ·exact ⟨0,by simp,by rw [if_pos e];rfl,by simp [e]⟩
  ·rw [if_neg e]
   have h':s ∈ r.map Fu.nm:=by
    rw [List.map_cons,List.mem_cons] at h
    exact h.resolve_left fun h=>e h.symm
   obtain ⟨i,hi,h1,h2⟩:=idx_find s r (k+1) h'
   exact ⟨i+1,by simp;omega,by rw [h1];congr 1;omega,by simp [e,h2]⟩
set_option maxRecDepth 100000 in
set_option maxHeartbeats 2000000 in
theorem idx_any (l:List Fu) (s:Bs) (v:Value) (b:Nat) (w:World) (h:SlG kFu (·<w.heap.size) w v l) (hb:w.cell? ⟨b,0,none⟩=some (.string ⟨s.toArray⟩)) :
  Calls Tryz.prog 157 #[v,.func (.func 158) #[] #[.pointer (some ⟨b,0,none⟩)]] w fun e w'=>e = .returned (.int .i64 (idxM l s))∧Below w.heap.size w w':=by
 obtain ⟨p,c,rfl⟩:=h.slc
 have HS:=hid h;have HL:=hid h.len;have HB:=hid hb
 have HM:=hid (show idxM l s=idxGo s (l.drop 0) 0 from rfl)
 clear h hb
 go_enter Tryz.func157,Tryz.ntmps157
 go_wp2
 go_loopw [4,5,8] (fun v4 v5 iv wr=>∃ k:Nat,k≤l.length∧iv = .int .i64 (k:Int)∧idxM l s=idxGo s (l.drop k) k∧Below w.heap.size w wr) (fun _ _ iv _=>l.length - (intOf iv).toNat)
 case atStart=>exact ⟨0,Nat.zero_le _,rfl,HM.out,Below.refl _ _⟩
 case round =>
  obtain ⟨k,hk,rfl,hm,hbr⟩:=hrel
  by_cases hlt:k<l.length
  ·obtain ⟨b0,off,rfl,hR,hcells⟩:=fu_at HS.out (by omega:0<l.length)
   obtain ⟨pp,cp,pc,cc,hsp,hsc,c0,c1,c2,c3,c4⟩:=hcells k hlt
   have d0:=(hbr.cell (p:=⟨b0,off+k*5,none⟩) hR).trans c0
   have d1:=(hbr.cell (p:=⟨b0,off+k*5+1,none⟩) hR).trans c1
   have d2:=(hbr.cell (p:=⟨b0,off+k*5+2,none⟩) hR).trans c2
   have d3:=(hbr.cell (p:=⟨b0,off+k*5+3,none⟩) hR).trans c3
   have d4:=(hbr.cell (p:=⟨b0,off+k*5+4,none⟩) hR).trans c4
   have HBC:=hid ((hbr.cell (p:=⟨b,0,none⟩) (cell_size HB.out)).trans HB.out)
   have HM2:=hid (hm.trans (by rw [List.drop_eq_getElem_cons hlt,idxGo]))
   have HLT:=hid hlt;have HBR:=hid hbr
   clear hcells hsp hsc c0 c1 c2 c3 c4 hR hbr hm
   generalize l[k]=f at *
   have HCL:=hid (clos_any f s pp pc cp cc b wr HBC.out)
   by_cases hf:f.nm=s
   ·have HR:=hid (HM2.out.trans (if_pos hf))
    rw [decide_eq_true hf] at HCL
    clear hf hlt
    go_wp2_with (go_at_call 158;with_reducible refine HCL.out.mono ?_;rintro e w2 ⟨rfl,hb2⟩;have HB2:=hid (HBR.out.trans (hb2.mono HBR.out.size));clear hb2)
    go_ret
    exact ⟨by rw [HR.out];rfl,HB2.out⟩
   ·have HR:=hid (HM2.out.trans (if_neg hf))
    rw [decide_eq_false hf] at HCL
    clear hf hlt
    go_wp2_with (go_at_call 158;with_reducible refine HCL.out.mono ?_;rintro e w2 ⟨rfl,hb2⟩;have HB2:=hid (HBR.out.trans (hb2.mono HBR.out.size));clear hb2)
    go_roundw
    case rel=>exact ⟨k+1,HLT.out,by rw [wrap_next HLT.out HL.out],HR.out,HB2.out⟩
    case measure=>exact meas_next HLT.out HL.out
  ·obtain rfl:k=l.length:=by omega
   have HR:=hid (show idxM l s = -1 from by rw [hm,List.drop_length];rfl)
   have HBR:=hid hbr
   clear hlt hbr hm
   go_wp2_with fail
   go_ret
   exact ⟨by rw [HR.out];rfl,HBR.out⟩
end Go.Proofs.YtoofbgoeipijcaaGreatDoor
