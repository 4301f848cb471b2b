/-
 Programs: the reference's model of the check, and that it is the same (plain).
-/
import Derived.Test.YtoofbgoeipijcaaGreatDoorVB5
namespace Go.Proofs.YtoofbgoeipijcaaGreatDoor
set_option linter.unusedSimpArgs false
set_option linter.unusedVariables false
open Go.RowKit Go.Shelf
theorem declM_append (pos:Int × Int):∀ (a seen b:List Bs),declM pos seen (a++b)=match declM pos seen a with | some f=>some f | none=>declM pos (seen++a) b
 | [],seen,b=>by simp [declM]
 | s :: r,seen,b=>by
  simp only [List.cons_append,declM]
  split
  ·rfl
  ·split
   ·rfl
   ·rw [declM_append pos r (seen++[s]) b];simp [List.append_assoc]
theorem declM_pos (pos pos':Int × Int):∀ (l seen:List Bs),declM pos seen l=(declM pos' seen l).map fun f=>(pos,f.2)
 | [],seen=>rfl
 | s :: r,seen=>by
  simp only [declM]
  split
  ·rfl
  ·split
   ·rfl
   ·exact declM_pos pos pos' r _
theorem declM_pos0 (pos:Int × Int) (seen l:List Bs) (f:Flt) (h:declM pos seen l=some f):f.1=pos∧(f.2=4∨f.2=8):=by
 induction l generalizing seen with
 | nil=>cases h
 | cons s r ih =>
  simp only [declM] at h
  split at h
  ·cases h;exact ⟨rfl,.inl rfl⟩
  ·split at h
   ·cases h;exact ⟨rfl,.inr rfl⟩
   ·exact ih _ h
def rnamesM (l:List Bs):Int:=if 32<l.length then 5 else match declM (0,0) [] l with | some f=>f.2 | none=>0
theorem rnames_none {l:List Bs} (h:l.length≤32):rnamesM l=0 ↔ declM (0,0) [] l=none:=by
 unfold rnamesM
 rw [if_neg (by omega)]
 cases e:declM (0,0) [] l with
 | none=>simp
 | some f=>simp;rcases (declM_pos0 _ _ _ _ e).2 with h | h <;> omega
theorem rnames_some {l:List Bs} (h:l.length≤32) {pos:Int × Int} {f:Flt} (e:declM pos [] l=some f):f=(pos,rnamesM l)∧rnamesM l ≠ 0:=by
 have h1:=declM_pos pos (0,0) l []
 rw [e] at h1
 cases e0:declM (0,0) [] l with
 | none=>rw [e0] at h1;cases h1
 | some g =>
  rw [e0] at h1
  simp only [Option.map_some,Option.some.injEq] at h1
  have hr:rnamesM l=g.2:=by unfold rnamesM;rw [if_neg (by omega),e0]
  rw [hr]
  exact ⟨h1,by rcases (declM_pos0 _ _ _ _ e0).2 with h | h <;> omega⟩
theorem decl_none {l:List Bs} (h:l.length≤32) {pos:Int × Int} (e:declM pos [] l=none):rnamesM l=0:=by
 rw [rnames_none h,← Option.map_eq_none_iff (f:=fun f:Flt=>(pos,f.2)),← declM_pos];exact e
def rarrsM (names:List Bs):Nat→List Ar→Option Flt
 | _,[]=>none
 | i,a :: r=>if rnamesM (names.take (i+1)) ≠ 0 then some ((0,0),rnamesM (names.take (i+1))) else if a.size<1∨64<a.size then some ((0,0),3) else rarrsM names (i+1) r
theorem arrs_eq (names:List Bs) (hn:names.length≤32):∀ (r:List Ar) (i:Nat),names=names.take i++r.map Ar.nm→i+r.length=names.length→declM (0,0) [] (names.take i)=none→arrsM (names.take i) r=rarrsM names i r
 | [],i,_,_,_=>rfl
 | a :: r,i,h,hl,h0=>by
  have hi:i<names.length:=by simp at hl;omega
  have hget:names[i]=a.nm:=by
   have h1:names[i]?=(names.take i++(a :: r).map Ar.nm)[i]?:=congrArg (·[i]?) h
   rw [List.getElem?_append_right (by rw [List.length_take];omega)] at h1
   rw [List.getElem?_eq_getElem hi] at h1
   simpa [List.length_take,Nat.min_eq_left (Nat.le_of_lt hi)] using h1
  have ht:names.take (i+1)=names.take i++[a.nm]:=by rw [List.take_succ_eq_append_getElem hi,hget]
  have hlen:(names.take (i+1)).length≤32:=by rw [List.length_take];omega
  have hd:declM (0,0) [] (names.take (i+1))=if namedB a.nm=false then some ((0,0),4) else if (names.take i).contains a.nm then some ((0,0),8) else none:=by
   rw [ht,declM_append,h0];simp only [List.nil_append,declM]
  simp only [arrsM,rarrsM]
  have key:∀ {f:Flt},declM (0,0) [] (names.take (i+1))=some f→(if rnamesM (names.take (i+1)) ≠ 0 then some ((0,0),rnamesM (names.take (i+1))) else if a.size<1∨64<a.size then some ((0,0),3) else rarrsM names (i+1) r)=some f:=fun hd=>by
   obtain ⟨e1,e2⟩:=rnames_some hlen hd
   rw [if_pos e2,← e1]
  by_cases c1:namedB a.nm=false
  ·rw [if_pos c1] at hd
   rw [if_pos c1,key hd]
  ·rw [if_neg c1] at hd
   rw [if_neg c1]
   by_cases c2:(names.take i).contains a.nm=true
   ·rw [if_pos c2] at hd
    rw [if_pos c2,key hd]
   ·rw [if_neg c2] at hd
    have c3:¬ rnamesM (names.take (i+1)) ≠ 0:=by rw [(rnames_none hlen).2 hd];simp
    rw [if_neg c2,if_neg c3]
    split
    ·rfl
    ·rw [← ht]
     exact arrs_eq names hn r (i+1) (by rw [ht];simpa using h) (by simp at hl;omega) hd
theorem _root_.List.take_append_of_le_length' {α:Type} (a b:List α) {n:Nat} (h:a.length≤n):(a++b).take n=a++b.take (n - a.length):=by
 rw [List.take_append,List.take_of_length_le h]
def sitesM:List Bs→List In→List Bs
 | s,[]=>s
 | s,x :: r=>if x.kind=7∧s.contains x.nm=false then sitesM (s++[x.nm]) r else sitesM s r
theorem sites_pre:∀ (l:List In) (s:List Bs),∃ t,sitesM s l=s++t
 | [],s=>⟨[],by simp [sitesM]⟩
 | x :: r,s=>by
  simp only [sitesM]
  split
  ·obtain ⟨t,h⟩:=sites_pre r (s++[x.nm])
   exact ⟨x.nm :: t,by rw [h];simp⟩
  ·exact sites_pre r s
theorem sites_append:∀ (a:List In) (s:List Bs) (b:List In),sitesM s (a++b)=sitesM (sitesM s a) b
 | [],s,b=>rfl
 | x :: r,s,b=>by
  simp only [List.cons_append,sitesM]
  split <;> exact sites_append r _ b
def rstepM (chans arrays S:List Bs) (main:Bool) (labels:List Bs) (x:In):Option Flt :=
 if (formB x && !(main && decide (x.kind=12)))=false then some (x.pos,4)
 else if (x.kind=5∨x.kind=6)∧chans.contains x.nm=false then some (x.pos,6)
 else if (x.kind=2∨x.kind=3)∧arrays.contains x.nm=false then some (x.pos,6)
 else if x.kind=10∧labels.contains x.nm=true then some (x.pos,8)
 else if x.kind=7∧(S.take 32).contains x.nm=false then some (x.pos,5)
 else none
def rlabel (labels:List Bs) (x:In):List Bs:=if x.kind=10 then labels++[x.nm] else labels
def rbodyM (chans arrays S:List Bs) (main:Bool):List In→List Bs→Option Flt
 | [],_=>none
 | x :: r,labels=>match rstepM chans arrays S main labels x with
  | some f=>some f
  | none=>rbodyM chans arrays S main r (rlabel labels x)
theorem step_eq (chans arrays S:List Bs) (main:Bool) (labels sites:List Bs) (x:In) (rest:List In) (hS:S=sitesM sites (x :: rest)) (hl:sites.length≤32) :
  match stepM chans arrays main labels sites x with
  | .error f=>rstepM chans arrays S main labels x=some f
  | .ok (l,s)=>rstepM chans arrays S main labels x=none∧l=rlabel labels x∧s=sitesM sites [x]∧s.length≤32:=by
 unfold stepM rstepM rlabel
 by_cases c1:(formB x && !(main && decide (x.kind=12)))=false
 ·simp only [if_pos c1]
 simp only [if_neg c1]
 by_cases c2:x.kind=5∨x.kind=6
 ·have n10:¬ x.kind=10:=by omega
  have n7:¬ x.kind=7:=by omega
  have n23:¬ (x.kind=2∨x.kind=3):=by omega
  by_cases h:x.nm ∈ chans
  ·simp [c2,n10,n7,n23,h,sitesM,hl]
  ·simp [c2,h]
 by_cases c3:x.kind=2∨x.kind=3
 ·have n10:¬ x.kind=10:=by omega
  have n7:¬ x.kind=7:=by omega
  by_cases h:x.nm ∈ arrays
  ·simp [c2,c3,n10,n7,h,sitesM,hl]
  ·simp [c2,c3,h]
 by_cases c4:x.kind=10
 ·have n7:¬ x.kind=7:=by omega
  by_cases h:x.nm ∈ labels
  ·simp [c4,h]
  ·simp [c4,h,sitesM,hl]
 by_cases c5:x.kind=7
 ·by_cases h:sites.contains x.nm=true
  ·have h':¬ sites.contains x.nm=false:=by rw [h];simp
   obtain ⟨t,ht⟩:=sites_pre rest sites
   have hin:(S.take 32).contains x.nm=true:=by
    rw [hS,sitesM,if_neg (fun e=>h' e.2),ht,List.take_append_of_le_length' sites t hl]
    rw [List.contains_iff_mem] at h ⊢
    exact List.mem_append_left _ h
   have hs:sitesM sites [x]=sites:=by simp only [sitesM,if_neg (fun e:x.kind=7∧_=>h' e.2)]
   have k1:¬ (x.kind=7∧(S.take 32).contains x.nm=false):=fun e=>by rw [hin] at e;cases e.2
   have k5:¬ (x.kind=5∨x.kind=6):=by omega
   have k2:¬ (x.kind=2∨x.kind=3):=by omega
   have e5:¬ ((x.kind=5∨x.kind=6)∧chans.contains x.nm=false):=fun e=>k5 e.1
   have e2:¬ ((x.kind=2∨x.kind=3)∧arrays.contains x.nm=false):=fun e=>k2 e.1
   have e10:¬ (x.kind=10∧labels.contains x.nm=true):=fun e=>c4 e.1
   simp only [if_neg k5,if_neg k2,if_neg e5,if_neg e2,if_neg e10,if_neg c4,if_pos c5,if_pos h,if_neg k1,hs]
   exact ⟨trivial,trivial,trivial,hl⟩
  ·have h':sites.contains x.nm=false:=by simpa using h
   obtain ⟨t,ht⟩:=sites_pre rest (sites++[x.nm])
   have hS':S=sites++[x.nm]++t:=by rw [hS,sitesM,if_pos ⟨c5,h'⟩,ht]
   have k5:¬ (x.kind=5∨x.kind=6):=by omega
   have k2:¬ (x.kind=2∨x.kind=3):=by omega
   have e5:¬ ((x.kind=5∨x.kind=6)∧chans.contains x.nm=false):=fun e=>k5 e.1
   have e2:¬ ((x.kind=2∨x.kind=3)∧arrays.contains x.nm=false):=fun e=>k2 e.1
   have e10:¬ (x.kind=10∧labels.contains x.nm=true):=fun e=>c4 e.1
   by_cases c6:sites.length<32
   ·have hin:(S.take 32).contains x.nm=true:=by
     rw [hS',List.take_append_of_le_length' (sites++[x.nm]) t (by simp;omega),List.contains_iff_mem]
     simp
    have k1:¬ (x.kind=7∧(S.take 32).contains x.nm=false):=fun e=>by rw [hin] at e;cases e.2
    have hs:sitesM sites [x]=sites++[x.nm]:=by simp only [sitesM,if_pos (⟨c5,h'⟩:x.kind=7∧sites.contains x.nm=false)]
    simp only [if_neg k5,if_neg k2,if_neg e5,if_neg e2,if_neg e10,if_neg c4,if_pos c5,if_neg h,if_pos c6,if_neg k1,hs]
    exact ⟨trivial,trivial,trivial,by simp;omega⟩
   ·have hin:(S.take 32).contains x.nm=false:=by
     have he:sites.length=32:=by omega
     have e:(sites++([x.nm]++t)).take 32=sites:=by rw [← he,List.take_left'];rfl
     rw [hS',List.append_assoc,e]
     exact h'
    have k1:x.kind=7∧(S.take 32).contains x.nm=false:=⟨c5,hin⟩
    simp only [if_neg k5,if_neg k2,if_neg e5,if_neg e2,if_neg e10,if_neg c4,if_pos c5,if_neg h,if_neg c6,if_pos k1]
 ·simp [c2,c3,c4,c5,sitesM,hl]
def rlabels (labels:List Bs):List In→List Bs
 | []=>labels
 | x :: r=>rlabels (rlabel labels x) r
theorem body_eq (chans arrays S:List Bs) (main:Bool):∀ (code:List In) (labels sites:List Bs) (rest:List In),S=sitesM sites (code++rest)→sites.length≤32 →
  match bodyM chans arrays main code labels sites with
  | .error f=>rbodyM chans arrays S main code labels=some f
  | .ok (l,s)=>rbodyM chans arrays S main code labels=none∧l=rlabels labels code∧s=sitesM sites code∧s.length≤32
 | [],labels,sites,rest,hS,hl=>by simp [bodyM,rbodyM,rlabels,sitesM,hl]
 | x :: r,labels,sites,rest,hS,hl=>by
  have h:=step_eq chans arrays S main labels sites x (r++rest) hS hl
  unfold bodyM rbodyM
  cases e:stepM chans arrays main labels sites x with
  | error f=>rw [e] at h;simp only at h ⊢;rw [h]
  | ok q =>
   obtain ⟨l1,s1⟩:=q
   rw [e] at h
   obtain ⟨h1,h2,h3,h4⟩:=h
   simp only [h1]
   have ih:=body_eq chans arrays S main r l1 s1 rest (by rw [hS,h3,← sites_append];rfl) h4
   rw [← h2]
   cases e2:bodyM chans arrays main r l1 s1 with
   | error f=>rw [e2] at ih;exact ih
   | ok q =>
    obtain ⟨l2,s2⟩:=q
    rw [e2] at ih
    obtain ⟨i1,i2,i3,i4⟩:=ih
    exact ⟨i1,by rw [i2,h2];rfl,by rw [i3,h3,← sites_append];rfl,i4⟩
theorem rlabels_mem (s:Bs):∀ (code:List In) (labels:List Bs),(rlabels labels code).contains s=(labels.contains s || code.any fun x=>decide (x.kind=10) && decide (x.nm=s))
 | [],labels=>by simp [rlabels]
 | x :: r,labels=>by
  rw [rlabels,rlabels_mem s r]
  unfold rlabel
  by_cases h:x.kind=10
  ·rw [if_pos h,List.any_cons,decide_eq_true h,Bool.true_and]
   have e:(labels++[x.nm]).contains s=(labels.contains s || decide (x.nm=s)):=by
    rw [Bool.eq_iff_iff]
    simp only [List.contains_iff_mem,List.mem_append,List.mem_singleton,Bool.or_eq_true,decide_eq_true_eq]
    exact ⟨fun h=>h.imp id Eq.symm,fun h=>h.imp id Eq.symm⟩
   rw [e,Bool.or_assoc]
  ·rw [if_neg h,List.any_cons,decide_eq_false h,Bool.false_and,Bool.false_or]
def rfuncsM (chans arrays S:List Bs):List Bs→List Fu→Option Flt
 | _,[]=>none
 | seen,f :: r =>
  if rnamesM (seen++[f.nm]) ≠ 0 then some (f.pos,rnamesM (seen++[f.nm])) else if rnamesM f.params ≠ 0 then some (f.pos,rnamesM f.params) else
  if 1024<f.code.length then some (f.pos,5) else
  match rbodyM chans arrays S false f.code [] with
  | some x=>some x
  | none=>rfuncsM chans arrays S (seen++[f.nm]) r
def codes (l:List Fu):List In:=(l.map Fu.code).flatten
theorem funcs_eq (chans arrays S:List Bs):∀ (l:List Fu) (seen:List Bs) (labels:List (List Bs)) (sites:List Bs) (rest:List In),S=sitesM sites (codes l++rest)→sites.length≤32 →
  declM (0,0) [] seen=none→seen.length+l.length≤32 →
  match funcsM chans arrays seen labels sites l with
  | .error f=>rfuncsM chans arrays S seen l=some f
  | .ok (ls,s)=>rfuncsM chans arrays S seen l=none∧ls=labels++l.map (fun f=>rlabels [] f.code)∧s=sitesM sites (codes l)∧s.length≤32∧declM (0,0) [] (seen++l.map Fu.nm)=none
 | [],seen,labels,sites,rest,hS,hl,hd,hn=>by simp [funcsM,rfuncsM,codes,sitesM,hl,hd]
 | f :: r,seen,labels,sites,rest,hS,hl,hd,hn=>by
  have hlen:(seen++[f.nm]).length≤32:=by simp at hn ⊢;omega
  have hdd:declM f.pos [] (seen++[f.nm])=if namedB f.nm=false then some (f.pos,4) else if seen.contains f.nm then some (f.pos,8) else none:=by
   rw [declM_append,declM_pos f.pos (0,0),hd];simp only [Option.map_none,List.nil_append,declM]
  have hdd0:declM (0,0) [] (seen++[f.nm])=if namedB f.nm=false then some ((0,0),4) else if seen.contains f.nm then some ((0,0),8) else none:=by
   rw [declM_append,hd];simp only [List.nil_append,declM]
  unfold funcsM rfuncsM
  by_cases c1:namedB f.nm=false
  ·rw [if_pos c1] at hdd
   obtain ⟨e1,e2⟩:=rnames_some hlen hdd
   simp only [if_pos c1,if_pos e2,← e1]
  rw [if_neg c1] at hdd hdd0
  by_cases c2:seen.contains f.nm=true
  ·rw [if_pos c2] at hdd
   obtain ⟨e1,e2⟩:=rnames_some hlen hdd
   simp only [if_neg c1,if_pos c2,if_pos e2,← e1]
  rw [if_neg c2] at hdd hdd0
  have e0:rnamesM (seen++[f.nm])=0:=decl_none hlen hdd
  have k0:¬ rnamesM (seen++[f.nm]) ≠ 0:=by rw [e0];simp
  simp only [if_neg c1,if_neg c2,if_neg k0]
  by_cases c3:32<f.params.length
  ·have e:rnamesM f.params=5:=by unfold rnamesM;rw [if_pos c3]
   simp only [if_pos c3,e]
   rfl
  cases hp:declM f.pos [] f.params with
  | some x =>
   obtain ⟨e1,e2⟩:=rnames_some (by omega) hp
   simp only [if_neg c3,if_pos e2,← e1]
  | none =>
   have e3:¬ rnamesM f.params ≠ 0:=by rw [decl_none (by omega) hp];simp
   simp only [if_neg c3,if_neg e3]
   unfold instrsM
   by_cases c4:1024<f.code.length
   ·simp only [if_pos c4]
   simp only [if_neg c4]
   have hb:=body_eq chans arrays S false f.code [] sites (codes r++rest) (by rw [hS];simp [codes,List.append_assoc]) hl
   cases e:bodyM chans arrays false f.code [] sites with
   | error x=>rw [e] at hb;simp only at hb ⊢;rw [hb]
   | ok q =>
    obtain ⟨l1,s1⟩:=q
    rw [e] at hb
    obtain ⟨h1,h2,h3,h4⟩:=hb
    simp only [h1]
    have ih:=funcs_eq chans arrays S r (seen++[f.nm]) (labels++[l1]) s1 rest (by rw [hS,h3,← sites_append];simp [codes,List.append_assoc]) h4 hdd0 (by simp at hn ⊢;omega)
    cases e2:funcsM chans arrays (seen++[f.nm]) (labels++[l1]) s1 r with
    | error x=>rw [e2] at ih;exact ih
    | ok q =>
     obtain ⟨l2,s2⟩:=q
     rw [e2] at ih
     obtain ⟨i1,i2,i3,i4,i5⟩:=ih
     exact ⟨i1,by rw [i2,h2];simp,by rw [i3,h3,← sites_append];simp [codes],i4,by simpa using i5⟩
def rtargetM (p:Pg) (code:List In) (x:In):Option Flt :=
 if (x.kind=8∨x.kind=9)∧(code.any fun y=>decide (y.kind=10) && decide (y.nm=x.nm))=false then some (x.pos,6)
 else if x.kind=4 then (match p.funcs.find? fun f=>decide (f.nm=x.nm) with
  | none=>some (x.pos,6)
  | some f=>if f.params.length=x.args.length then none else some (x.pos,4))
 else none
def rtargetsM (p:Pg) (code:List In):List In→Option Flt
 | []=>none
 | x :: r=>match rtargetM p code x with
  | some f=>some f
  | none=>rtargetsM p code r
theorem target_eq (p:Pg) (code:List In) (x:In):targetM p (rlabels [] code) x=rtargetM p code x:=by
 unfold targetM rtargetM paramsOf
 have e:=rlabels_mem x.nm code []
 simp only [List.contains_nil,Bool.false_or] at e
 rw [e]
 by_cases c:x.kind=8∨x.kind=9
 ·have n4:¬ x.kind=4:=by omega
  cases h:(code.any fun y=>decide (y.kind=10) && decide (y.nm=x.nm))
  ·simp [c]
  ·simp [c,n4]
 ·have k:¬ ((x.kind=8∨x.kind=9)∧(code.any fun y=>decide (y.kind=10) && decide (y.nm=x.nm))=false):=fun e=>c e.1
  simp only [if_neg c,if_neg k]
  split
  ·cases p.funcs.find? fun f=>decide (f.nm=x.nm) <;> rfl
  ·rfl
theorem targets_eq (p:Pg) (code:List In):∀ l,targetsM p (rlabels [] code) l=rtargetsM p code l
 | []=>rfl
 | x :: r=>by
  unfold targetsM rtargetsM
  rw [target_eq,targets_eq p code r]
  cases rtargetM p code x <;> rfl
def rlaterM (p:Pg):List Fu→Option Flt
 | []=>none
 | f :: r=>match rtargetsM p f.code f.code with
  | some x=>some x
  | none=>rlaterM p r
theorem later_eq (p:Pg):∀ l,laterM p (l.map fun f=>rlabels [] f.code) l=rlaterM p l
 | []=>by simp [laterM,rlaterM]
 | f :: r=>by
  simp only [List.map_cons,laterM,List.headD_cons,List.tail_cons,rlaterM]
  rw [targets_eq,later_eq p r]
  cases rtargetsM p f.code f.code <;> rfl
end Go.Proofs.YtoofbgoeipijcaaGreatDoor
