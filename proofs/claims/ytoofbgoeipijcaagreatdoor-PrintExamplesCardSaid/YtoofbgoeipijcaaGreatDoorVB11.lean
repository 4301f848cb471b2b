/-
 A part.
-/
import Derived.Test.YtoofbgoeipijcaaGreatDoorVB10
namespace Go.Proofs.YtoofbgoeipijcaaGreatDoor
set_option maxRecDepth 100000
set_option maxHeartbeats 2000000
set_option linter.all false
open Go.RowKit Go.Shelf
theorem declM_append (pos:Int × Int):∀ (a seen b:List Bs),declM pos seen (a++b)=match declM pos seen a with | some f=>some f | none=>declM pos (seen++a) b
 | [],seen,b=>by simp [declM]
 | s :: r,seen,b=>by
  simp only [List.cons_append,declM]
  split
  ·rfl
  ·split
   ·rfl
   ·rw [declM_append pos r (seen++[s]) b];simp [List.append_assoc]
theorem declM_pos (pos pos':Int × Int):∀ (l seen:List Bs),declM pos seen l=(declM pos' seen l).map fun f=>(pos,f.2)
 | [],seen=>rfl
 | s :: r,seen=>by
  simp only [declM]
  split
  ·rfl
  ·split
   ·rfl
   ·exact declM_pos pos pos' r _
theorem declM_pos0 (pos:Int × Int) (seen l:List Bs) (f:Flt) (h:declM pos seen l=some f):f.1=pos/\(f.2=4\/f.2=8):=by
 induction l generalizing seen with
 | nil=>cases h
 | cons s r ih =>
  simp only [declM] at h
  split at h
  ·cases h;exact ⟨rfl,.inl rfl⟩
  ·split at h
   ·cases h;exact ⟨rfl,.inr rfl⟩
   ·exact ih _ h
def rnamesM (l:List Bs):Int:=if 32<l.length then 5 else match declM (0,0) [] l with | some f=>f.2 | none=>0
theorem rnames_none {l:List Bs} (h:l.length<=32):rnamesM l=0 ↔ declM (0,0) [] l=none:=by
 unfold rnamesM
 rw [if_neg (by omega)]
 cases e:declM (0,0) [] l with
 | none=>simp
 | some f=>simp;rcases (declM_pos0 _ _ _ _ e).2 with h | h <;> omega
theorem rnames_some {l:List Bs} (h:l.length<=32) {pos:Int × Int} {f:Flt} (e:declM pos [] l=some f):f=(pos,rnamesM l)/\rnamesM l ≠ 0:=by
 have h1:=declM_pos pos (0,0) l []
 rw [e] at h1
 cases e0:declM (0,0) [] l with
 | none=>rw [e0] at h1;cases h1
 | some g =>
  rw [e0] at h1
  simp only [Option.map_some,Option.some.injEq] at h1
  have hr:rnamesM l=g.2:=by unfold rnamesM;rw [if_neg (by omega),e0]
  rw [hr]
  exact ⟨h1,by rcases (declM_pos0 _ _ _ _ e0).2 with h | h <;> omega⟩
theorem decl_none {l:List Bs} (h:l.length<=32) {pos:Int × Int} (e:declM pos [] l=none):rnamesM l=0:=by
 rw [rnames_none h,<- Option.map_eq_none_iff (f:=fun f:Flt=>(pos,f.2)),<- declM_pos];exact e
def rarrsM (names:List Bs):Nat->List Ar->Option Flt
 | _,[]=>none
 | i,a :: r=>if rnamesM (names.take (i+1)) ≠ 0 then some ((0,0),rnamesM (names.take (i+1))) else if a.size<1\/64<a.size then some ((0,0),3) else rarrsM names (i+1) r
theorem arrs_eq (names:List Bs) (hn:names.length<=32):∀ (r:List Ar) (i:Nat),names=names.take i++r.map Ar.nm->i+r.length=names.length->declM (0,0) [] (names.take i)=none->arrsM (names.take i) r=rarrsM names i r
 | [],i,_,_,_=>rfl
 | a :: r,i,h,hl,h0=>by
  have hi:i<names.length:=by simp at hl;omega
  have hget:names[i]=a.nm:=by
   have h1:names[i]?=(names.take i++(a :: r).map Ar.nm)[i]?:=congrArg (·[i]?) h
   rw [List.getElem?_append_right (by rw [List.length_take];omega)] at h1
   rw [List.getElem?_eq_getElem hi] at h1
   simpa [List.length_take,Nat.min_eq_left (Nat.le_of_lt hi)] using h1
  have ht:names.take (i+1)=names.take i++[a.nm]:=by rw [List.take_succ_eq_append_getElem hi,hget]
  have hlen:(names.take (i+1)).length<=32:=by rw [List.length_take];omega
  have hd:declM (0,0) [] (names.take (i+1))=if namedB a.nm=false then some ((0,0),4) else if (names.take i).contains a.nm then some ((0,0),8) else none:=by
   rw [ht,declM_append,h0];simp only [List.nil_append,declM]
  simp only [arrsM,rarrsM]
  have key:∀ {f:Flt},declM (0,0) [] (names.take (i+1))=some f->(if rnamesM (names.take (i+1)) ≠ 0 then some ((0,0),rnamesM (names.take (i+1))) else if a.size<1\/64<a.size then some ((0,0),3) else rarrsM names (i+1) r)=some f:=fun hd=>by
   obtain ⟨e1,e2⟩:=rnames_some hlen hd
   rw [if_pos e2,<- e1]
  by_cases c1:namedB a.nm=false
  ·rw [if_pos c1] at hd
   rw [if_pos c1,key hd]
  ·rw [if_neg c1] at hd
   rw [if_neg c1]
   by_cases c2:(names.take i).contains a.nm=true
   ·rw [if_pos c2] at hd
    rw [if_pos c2,key hd]
   ·rw [if_neg c2] at hd
    have c3:¬ rnamesM (names.take (i+1)) ≠ 0:=by rw [(rnames_none hlen).2 hd];simp
    rw [if_neg c2,if_neg c3]
    split
    ·rfl
    ·rw [<- ht]
     exact arrs_eq names hn r (i+1) (by rw [ht];simpa using h) (by simp at hl;omega) hd
theorem _root_.List.take_append_of_le_length' {α:Type} (a b:List α) {n:Nat} (h:a.length<=n):(a++b).take n=a++b.take (n - a.length):=by
 rw [List.take_append,List.take_of_length_le h]
def sitesM:List Bs->List In->List Bs
 | s,[]=>s
 | s,x :: r=>if x.kind=7/\s.contains x.nm=false then sitesM (s++[x.nm]) r else sitesM s r
theorem sites_pre:∀ (l:List In) (s:List Bs),∃ t,sitesM s l=s++t
 | [],s=>⟨[],by simp [sitesM]⟩
 | x :: r,s=>by
  simp only [sitesM]
  split
  ·obtain ⟨t,h⟩:=sites_pre r (s++[x.nm])
   exact ⟨x.nm :: t,by rw [h];simp⟩
  ·exact sites_pre r s
theorem sites_append:∀ (a:List In) (s:List Bs) (b:List In),sitesM s (a++b)=sitesM (sitesM s a) b
 | [],s,b=>rfl
 | x :: r,s,b=>by
  simp only [List.cons_append,sitesM]
  split <;> exact sites_append r _ b
def rstepM (chans arrays S:List Bs) (main:Bool) (labels:List Bs) (x:In):Option Flt :=
 if (formB x && !(main && decide (x.kind=12)))=false then some (x.pos,4)
 else if (x.kind=5\/x.kind=6)/\chans.contains x.nm=false then some (x.pos,6)
 else if (x.kind=2\/x.kind=3)/\arrays.contains x.nm=false then some (x.pos,6)
 else if x.kind=10/\labels.contains x.nm=true then some (x.pos,8)
 else if x.kind=7/\(S.take 32).contains x.nm=false then some (x.pos,5)
 else none
def rlabel (labels:List Bs) (x:In):List Bs:=if x.kind=10 then labels++[x.nm] else labels
def rbodyM (chans arrays S:List Bs) (main:Bool):List In->List Bs->Option Flt
 | [],_=>none
 | x :: r,labels=>match rstepM chans arrays S main labels x with
  | some f=>some f
  | none=>rbodyM chans arrays S main r (rlabel labels x)
theorem step_eq (chans arrays S:List Bs) (main:Bool) (labels sites:List Bs) (x:In) (rest:List In) (hS:S=sitesM sites (x :: rest)) (hl:sites.length<=32) :
  match stepM chans arrays main labels sites x with
  | .error f=>rstepM chans arrays S main labels x=some f
  | .ok (l,s)=>rstepM chans arrays S main labels x=none/\l=rlabel labels x/\s=sitesM sites [x]/\s.length<=32:=by
 unfold stepM rstepM rlabel
 by_cases c1:(formB x && !(main && decide (x.kind=12)))=false
 ·simp only [if_pos c1]
 simp only [if_neg c1]
 by_cases c2:x.kind=5\/x.kind=6
 ·have n10:¬ x.kind=10:=by omega
  have n7:¬ x.kind=7:=by omega
  have n23:¬ (x.kind=2\/x.kind=3):=by omega
  by_cases h:x.nm ∈ chans
  ·simp [c2,n10,n7,n23,h,sitesM,hl]
  ·simp [c2,h]
 by_cases c3:x.kind=2\/x.kind=3
 ·have n10:¬ x.kind=10:=by omega
  have n7:¬ x.kind=7:=by omega
  by_cases h:x.nm ∈ arrays
  ·simp [c2,c3,n10,n7,h,sitesM,hl]
  ·simp [c2,c3,h]
 by_cases c4:x.kind=10
 ·have n7:¬ x.kind=7:=by omega
  by_cases h:x.nm ∈ labels
  ·simp [c4,h]
  ·simp [c4,h,sitesM,hl]
 by_cases c5:x.kind=7
 ·by_cases h:sites.contains x.nm=true
  ·have h':¬ sites.contains x.nm=false:=by rw [h];simp
   obtain ⟨t,ht⟩:=sites_pre rest sites
   have hin:(S.take 32).contains x.nm=true:=by
    rw [hS,sitesM,if_neg (fun e=>h' e.2),ht,List.take_append_of_le_length' sites t hl]
    rw [List.contains_iff_mem] at h ⊢
    exact List.mem_append_left _ h
   have hs:sitesM sites [x]=sites:=by simp only [sitesM,if_neg (fun e:x.kind=7/\_=>h' e.2)]
   have k1:¬ (x.kind=7/\(S.take 32).contains x.nm=false):=fun e=>by rw [hin] at e;cases e.2
   have k5:¬ (x.kind=5\/x.kind=6):=by omega
   have k2:¬ (x.kind=2\/x.kind=3):=by omega
   have e5:¬ ((x.kind=5\/x.kind=6)/\chans.contains x.nm=false):=fun e=>k5 e.1
   have e2:¬ ((x.kind=2\/x.kind=3)/\arrays.contains x.nm=false):=fun e=>k2 e.1
   have e10:¬ (x.kind=10/\labels.contains x.nm=true):=fun e=>c4 e.1
   simp only [if_neg k5,if_neg k2,if_neg e5,if_neg e2,if_neg e10,if_neg c4,if_pos c5,if_pos h,if_neg k1,hs]
   exact ⟨trivial,trivial,trivial,hl⟩
  ·have h':sites.contains x.nm=false:=by simpa using h
   obtain ⟨t,ht⟩:=sites_pre rest (sites++[x.nm])
   have hS':S=sites++[x.nm]++t:=by rw [hS,sitesM,if_pos ⟨c5,h'⟩,ht]
   have k5:¬ (x.kind=5\/x.kind=6):=by omega
   have k2:¬ (x.kind=2\/x.kind=3):=by omega
   have e5:¬ ((x.kind=5\/x.kind=6)/\chans.contains x.nm=false):=fun e=>k5 e.1
   have e2:¬ ((x.kind=2\/x.kind=3)/\arrays.contains x.nm=false):=fun e=>k2 e.1
   have e10:¬ (x.kind=10/\labels.contains x.nm=true):=fun e=>c4 e.1
   by_cases c6:sites.length<32
   ·have hin:(S.take 32).contains x.nm=true:=by
     rw [hS',List.take_append_of_le_length' (sites++[x.nm]) t (by simp;omega),List.contains_iff_mem]
     simp
    have k1:¬ (x.kind=7/\(S.take 32).contains x.nm=false):=fun e=>by rw [hin] at e;cases e.2
    have hs:sitesM sites [x]=sites++[x.nm]:=by simp only [sitesM,if_pos (⟨c5,h'⟩:x.kind=7/\sites.contains x.nm=false)]
    simp only [if_neg k5,if_neg k2,if_neg e5,if_neg e2,if_neg e10,if_neg c4,if_pos c5,if_neg h,if_pos c6,if_neg k1,hs]
    exact ⟨trivial,trivial,trivial,by simp;omega⟩
   ·have hin:(S.take 32).contains x.nm=false:=by
     have he:sites.length=32:=by omega
     have e:(sites++([x.nm]++t)).take 32=sites:=by rw [<- he,List.take_left'];rfl
     rw [hS',List.append_assoc,e]
     exact h'
    have k1:x.kind=7/\(S.take 32).contains x.nm=false:=⟨c5,hin⟩
    simp only [if_neg k5,if_neg k2,if_neg e5,if_neg e2,if_neg e10,if_neg c4,if_pos c5,if_neg h,if_neg c6,if_pos k1]
 ·simp [c2,c3,c4,c5,sitesM,hl]
def rlabels (labels:List Bs):List In->List Bs
 | []=>labels
 | x :: r=>rlabels (rlabel labels x) r
theorem body_eq (chans arrays S:List Bs) (main:Bool):∀ (code:List In) (labels sites:List Bs) (rest:List In),S=sitesM sites (code++rest)->sites.length<=32 ->
  match bodyM chans arrays main code labels sites with
  | .error f=>rbodyM chans arrays S main code labels=some f
  | .ok (l,s)=>rbodyM chans arrays S main code labels=none/\l=rlabels labels code/\s=sitesM sites code/\s.length<=32
 | [],labels,sites,rest,hS,hl=>by simp [bodyM,rbodyM,rlabels,sitesM,hl]
 | x :: r,labels,sites,rest,hS,hl=>by
  have h:=step_eq chans arrays S main labels sites x (r++rest) hS hl
  unfold bodyM rbodyM
  cases e:stepM chans arrays main labels sites x with
  | error f=>rw [e] at h;simp only at h ⊢;rw [h]
  | ok q =>
   obtain ⟨l1,s1⟩:=q
   rw [e] at h
   obtain ⟨h1,h2,h3,h4⟩:=h
   simp only [h1]
   have ih:=body_eq chans arrays S main r l1 s1 rest (by rw [hS,h3,<- sites_append];rfl) h4
   rw [<- h2]
   cases e2:bodyM chans arrays main r l1 s1 with
   | error f=>rw [e2] at ih;exact ih
   | ok q =>
    obtain ⟨l2,s2⟩:=q
    rw [e2] at ih
    obtain ⟨i1,i2,i3,i4⟩:=ih
    exact ⟨i1,by rw [i2,h2];rfl,by rw [i3,h3,<- sites_append];rfl,i4⟩
theorem rlabels_mem (s:Bs):∀ (code:List In) (labels:List Bs),(rlabels labels code).contains s=(labels.contains s || code.any fun x=>decide (x.kind=10) && decide (x.nm=s))
 | [],labels=>by simp [rlabels]
 | x :: r,labels=>by
  rw [rlabels,rlabels_mem s r]
  unfold rlabel
  by_cases h:x.kind=10
  ·rw [if_pos h,List.any_cons,decide_eq_true h,Bool.true_and]
   have e:(labels++[x.nm]).contains s=(labels.contains s || decide (x.nm=s)):=by
    rw [Bool.eq_iff_iff]
    simp only [List.contains_iff_mem,List.mem_append,List.mem_singleton,Bool.or_eq_true,decide_eq_true_eq]
    exact ⟨fun h=>h.imp id Eq.symm,fun h=>h.imp id Eq.symm⟩
   rw [e,Bool.or_assoc]
  ·rw [if_neg h,List.any_cons,decide_eq_false h,Bool.false_and,Bool.false_or]
def rfuncsM (chans arrays S:List Bs):List Bs->List Fu->Option Flt
 | _,[]=>none
 | seen,f :: r =>
  if rnamesM (seen++[f.nm]) ≠ 0 then some (f.pos,rnamesM (seen++[f.nm])) else if rnamesM f.params ≠ 0 then some (f.pos,rnamesM f.params) else
  if 1024<f.code.length then some (f.pos,5) else
  match rbodyM chans arrays S false f.code [] with
  | some x=>some x
  | none=>rfuncsM chans arrays S (seen++[f.nm]) r
def codes (l:List Fu):List In:=(l.map Fu.code).flatten
theorem funcs_eq (chans arrays S:List Bs):∀ (l:List Fu) (seen:List Bs) (labels:List (List Bs)) (sites:List Bs) (rest:List In),S=sitesM sites (codes l++rest)->sites.length<=32 ->
  declM (0,0) [] seen=none->seen.length+l.length<=32 ->
  match funcsM chans arrays seen labels sites l with
  | .error f=>rfuncsM chans arrays S seen l=some f
  | .ok (ls,s)=>rfuncsM chans arrays S seen l=none/\ls=labels++l.map (fun f=>rlabels [] f.code)/\s=sitesM sites (codes l)/\s.length<=32/\declM (0,0) [] (seen++l.map Fu.nm)=none
 | [],seen,labels,sites,rest,hS,hl,hd,hn=>by simp [funcsM,rfuncsM,codes,sitesM,hl,hd]
 | f :: r,seen,labels,sites,rest,hS,hl,hd,hn=>by
  have hlen:(seen++[f.nm]).length<=32:=by simp at hn ⊢;omega
  have hdd:declM f.pos [] (seen++[f.nm])=if namedB f.nm=false then some (f.pos,4) else if seen.contains f.nm then some (f.pos,8) else none:=by
   rw [declM_append,declM_pos f.pos (0,0),hd];simp only [Option.map_none,List.nil_append,declM]
  have hdd0:declM (0,0) [] (seen++[f.nm])=if namedB f.nm=false then some ((0,0),4) else if seen.contains f.nm then some ((0,0),8) else none:=by
   rw [declM_append,hd];simp only [List.nil_append,declM]
  unfold funcsM rfuncsM
  by_cases c1:namedB f.nm=false
  ·rw [if_pos c1] at hdd
   obtain ⟨e1,e2⟩:=rnames_some hlen hdd
   simp only [if_pos c1,if_pos e2,<- e1]
  rw [if_neg c1] at hdd hdd0
  by_cases c2:seen.contains f.nm=true
  ·rw [if_pos c2] at hdd
   obtain ⟨e1,e2⟩:=rnames_some hlen hdd
   simp only [if_neg c1,if_pos c2,if_pos e2,<- e1]
  rw [if_neg c2] at hdd hdd0
  have e0:rnamesM (seen++[f.nm])=0:=decl_none hlen hdd
  have k0:¬ rnamesM (seen++[f.nm]) ≠ 0:=by rw [e0];simp
  simp only [if_neg c1,if_neg c2,if_neg k0]
  by_cases c3:32<f.params.length
  ·have e:rnamesM f.params=5:=by unfold rnamesM;rw [if_pos c3]
   simp only [if_pos c3,e]
   rfl
  cases hp:declM f.pos [] f.params with
  | some x =>
   obtain ⟨e1,e2⟩:=rnames_some (by omega) hp
   simp only [if_neg c3,if_pos e2,<- e1]
  | none =>
   have e3:¬ rnamesM f.params ≠ 0:=by rw [decl_none (by omega) hp];simp
   simp only [if_neg c3,if_neg e3]
   unfold instrsM
   by_cases c4:1024<f.code.length
   ·simp only [if_pos c4]
   simp only [if_neg c4]
   have hb:=body_eq chans arrays S false f.code [] sites (codes r++rest) (by rw [hS];simp [codes,List.append_assoc]) hl
   cases e:bodyM chans arrays false f.code [] sites with
   | error x=>rw [e] at hb;simp only at hb ⊢;rw [hb]
   | ok q =>
    obtain ⟨l1,s1⟩:=q
    rw [e] at hb
    obtain ⟨h1,h2,h3,h4⟩:=hb
    simp only [h1]
    have ih:=funcs_eq chans arrays S r (seen++[f.nm]) (labels++[l1]) s1 rest (by rw [hS,h3,<- sites_append];simp [codes,List.append_assoc]) h4 hdd0 (by simp at hn ⊢;omega)
    cases e2:funcsM chans arrays (seen++[f.nm]) (labels++[l1]) s1 r with
    | error x=>rw [e2] at ih;exact ih
    | ok q =>
     obtain ⟨l2,s2⟩:=q
     rw [e2] at ih
     obtain ⟨i1,i2,i3,i4,i5⟩:=ih
     exact ⟨i1,by rw [i2,h2];simp,by rw [i3,h3,<- sites_append];simp [codes],i4,by simpa using i5⟩
def rtargetM (p:Pg) (code:List In) (x:In):Option Flt :=
 if (x.kind=8\/x.kind=9)/\(code.any fun y=>decide (y.kind=10) && decide (y.nm=x.nm))=false then some (x.pos,6)
 else if x.kind=4 then (match p.funcs.find? fun f=>decide (f.nm=x.nm) with
  | none=>some (x.pos,6)
  | some f=>if f.params.length=x.args.length then none else some (x.pos,4))
 else none
def rtargetsM (p:Pg) (code:List In):List In->Option Flt
 | []=>none
 | x :: r=>match rtargetM p code x with
  | some f=>some f
  | none=>rtargetsM p code r
theorem target_eq (p:Pg) (code:List In) (x:In):targetM p (rlabels [] code) x=rtargetM p code x:=by
 unfold targetM rtargetM paramsOf
 have e:=rlabels_mem x.nm code []
 simp only [List.contains_nil,Bool.false_or] at e
 rw [e]
 by_cases c:x.kind=8\/x.kind=9
 ·have n4:¬ x.kind=4:=by omega
  cases h:(code.any fun y=>decide (y.kind=10) && decide (y.nm=x.nm))
  ·simp [c]
  ·simp [c,n4]
 ·have k:¬ ((x.kind=8\/x.kind=9)/\(code.any fun y=>decide (y.kind=10) && decide (y.nm=x.nm))=false):=fun e=>c e.1
  simp only [if_neg c,if_neg k]
  split
  ·cases p.funcs.find? fun f=>decide (f.nm=x.nm) <;> rfl
  ·rfl
theorem targets_eq (p:Pg) (code:List In):∀ l,targetsM p (rlabels [] code) l=rtargetsM p code l
 | []=>rfl
 | x :: r=>by
  unfold targetsM rtargetsM
  rw [target_eq,targets_eq p code r]
  cases rtargetM p code x <;> rfl
def rlaterM (p:Pg):List Fu->Option Flt
 | []=>none
 | f :: r=>match rtargetsM p f.code f.code with
  | some x=>some x
  | none=>rlaterM p r
theorem later_eq (p:Pg):∀ l,laterM p (l.map fun f=>rlabels [] f.code) l=rlaterM p l
 | []=>by simp [laterM,rlaterM]
 | f :: r=>by
  simp only [List.map_cons,laterM,List.headD_cons,List.tail_cons,rlaterM]
  rw [targets_eq,later_eq p r]
  cases rtargetsM p f.code f.code <;> rfl
theorem nodup_le {α:Type} [DecidableEq α]:∀ (l m:List α),l.Nodup->(∀ x ∈ l,x ∈ m)->l.length<=m.length
 | [],m,_,_=>Nat.zero_le _
 | x :: r,m,hn,hs=>by
  have hx:=hs x (List.mem_cons_self ..)
  have hn':=List.nodup_cons.1 hn
  have h:=nodup_le r (m.erase x) hn'.2 fun y hy=>by
   have hne:y ≠ x:=fun e=>hn'.1 (e ▸ hy)
   exact (List.mem_erase_of_ne hne).2 (hs y (List.mem_cons_of_mem _ hy))
  rw [List.length_erase_of_mem hx] at h
  have:0<m.length:=List.length_pos_of_mem hx
  simp only [List.length_cons]
  omega
inductive Rch (p:Pg) (a:Bs):Bs->Prop
 | base {b:Bs}:b ∈ callsM (codeOf p a)->Rch p a b
 | tail {b c:Bs}:Rch p a b->c ∈ callsM (codeOf p b)->Rch p a c
def namesP (p:Pg):List Bs:=p.funcs.map Fu.nm
def Closed (p:Pg):Prop:=∀ a,∀ b ∈ callsM (codeOf p a),b ∈ namesP p
theorem push_spec (name:Bs):∀ (gs seen todo:List Bs),seen.Nodup ->
  (pushM name gs seen todo).1=true/\name ∈ gs \/
  (pushM name gs seen todo).1=false/\name ∉ gs/\∃ new:List Bs,(pushM name gs seen todo).2.1=seen++new/\(pushM name gs seen todo).2.2=todo++new/\(seen++new).Nodup/\(∀ x ∈ new,x ∈ gs)/\∀ x ∈ gs,x ∈ seen++new
 | [],seen,todo,hn => .inr ⟨rfl,by simp,[],by simp [pushM],by simp [pushM],by simpa using hn,by simp,by simp⟩
 | g :: r,seen,todo,hn=>by
  unfold pushM
  by_cases c1:g=name
  ·left;rw [if_pos c1];exact ⟨rfl,by rw [c1];exact List.mem_cons_self ..⟩
  rw [if_neg c1]
  by_cases c2:seen.contains g=true
  ·rw [if_pos c2]
   rcases push_spec name r seen todo hn with ⟨h1,h2⟩ | ⟨h1,h2,new,h3,h4,h5,h6,h7⟩
   ·exact .inl ⟨h1,List.mem_cons_of_mem _ h2⟩
   ·refine .inr ⟨h1,fun h=>?_,new,h3,h4,h5,fun x hx=>List.mem_cons_of_mem _ (h6 x hx),fun x hx=>?_⟩
    ·rcases List.mem_cons.1 h with h | h
     ·exact c1 h.symm
     ·exact h2 h
    ·rcases List.mem_cons.1 hx with h | h
     ·rw [h];exact List.mem_append_left _ (List.contains_iff_mem.1 c2)
     ·exact h7 x h
  ·rw [if_neg c2]
   have hnm:g ∉ seen:=fun h=>c2 (List.contains_iff_mem.2 h)
   have hn2:(seen++[g]).Nodup:=by
    rw [List.nodup_append]
    exact ⟨hn,by simp,fun a ha b hb e=>by rw [List.mem_singleton] at hb;rw [e,hb] at ha;exact hnm ha⟩
   rcases push_spec name r (seen++[g]) (todo++[g]) hn2 with ⟨h1,h2⟩ | ⟨h1,h2,new,h3,h4,h5,h6,h7⟩
   ·exact .inl ⟨h1,List.mem_cons_of_mem _ h2⟩
   ·refine .inr ⟨h1,fun h=>?_,g :: new,by rw [h3];simp,by rw [h4];simp,by simpa using h5,fun x hx=>?_,fun x hx=>?_⟩
    ·rcases List.mem_cons.1 h with h | h
     ·exact c1 h.symm
     ·exact h2 h
    ·rcases List.mem_cons.1 hx with h | h
     ·rw [h];exact List.mem_cons_self ..
     ·exact List.mem_cons_of_mem _ (h6 x h)
    ·rcases List.mem_cons.1 hx with h | h
     ·rw [h];simp
     ·have:=h7 x h;simpa using this
theorem loops_spec (p:Pg) (hc:Closed p) (name:Bs):∀ (k:Nat) (seen todo:List Bs),seen.Nodup->(∀ s ∈ seen,s ∈ namesP p)->(∀ s ∈ seen,Rch p name s)->(∀ t ∈ todo,t=name\/t ∈ seen)->name ∉ seen ->
  (∀ a,(a=name\/a ∈ seen)->a ∉ todo->∀ b ∈ callsM (codeOf p a),b ∈ seen)->2*(p.funcs.length - seen.length)+todo.length+1<=k->(loopsM p name k seen todo=true ↔ Rch p name name)
 | 0,seen,todo,_,_,_,_,_,_,hk=>by omega
 | k+1,seen,todo,hn,hs,hr,ht,hns,hcl,hk=>by
  unfold loopsM
  by_cases c:todo=[]
  ·rw [if_pos c]
   subst c
   refine ⟨fun h=>(by cases h),fun h=>?_⟩
   have hall:∀ b,Rch p name b->b ∈ seen:=by
    intro b hb
    induction hb with
    | base h=>exact hcl name (.inl rfl) (by simp) _ h
    | tail _ h ih=>exact hcl _ (.inr ih) (by simp) _ h
   exact absurd (hall _ h) hns
  rw [if_neg c]
  have hlast:todo.getLastD []=todo.getLast c:=by rw [List.getLastD_eq_getLast?,List.getLast?_eq_some_getLast c];rfl
  obtain ⟨f,hf⟩:∃ f,todo.getLast c=f:=⟨_,rfl⟩
  rw [hlast,hf]
  have htodo:todo=todo.dropLast++[f]:=by rw [<- hf];exact (List.dropLast_concat_getLast c).symm
  have hfm:f=name\/f ∈ seen:=ht f (by rw [htodo];simp)
  have hreach:∀ b ∈ callsM (codeOf p f),Rch p name b:=fun b hb=>by
   rcases hfm with e | e
   ·subst e;exact .base hb
   ·exact .tail (hr f e) hb
  have hlen:todo.length=todo.dropLast.length+1:=by
   have:=congrArg List.length htodo
   simpa using this
  rcases push_spec name (callsM (codeOf p f)) seen todo.dropLast hn with ⟨h1,h2⟩ | ⟨h1,h2,new,h3,h4,h5,h6,h7⟩
  ·simp only [h1,if_true,true_iff]
   exact hreach name h2
  ·simp only [h1,Bool.false_eq_true,if_false,h3,h4]
   have hsn:∀ s ∈ seen++new,s ∈ namesP p:=fun s h=>by
    rcases List.mem_append.1 h with h | h
    ·exact hs s h
    ·exact hc f s (h6 s h)
   have hle:=nodup_le (seen++new) (namesP p) h5 hsn
   rw [List.length_append,show (namesP p).length=p.funcs.length by simp [namesP]] at hle
   refine loops_spec p hc name k (seen++new) (todo.dropLast++new) h5 hsn (fun s h=>?_) (fun t h=>?_) (fun h=>?_) (fun a ha hna b hb=>?_) ?_
   ·rcases List.mem_append.1 h with h | h
    ·exact hr s h
    ·exact hreach s (h6 s h)
   ·rcases List.mem_append.1 h with h | h
    ·rcases ht t (by rw [htodo];exact List.mem_append_left _ h) with e | e
     ·exact .inl e
     ·exact .inr (List.mem_append_left _ e)
    ·exact .inr (List.mem_append_right _ h)
   ·rcases List.mem_append.1 h with h | h
    ·exact hns h
    ·exact h2 (h6 _ h)
   ·by_cases e:a=f
    ·subst e;exact h7 b hb
    ·have hnt:a ∉ todo:=fun h=>by
      rw [htodo] at h
      rcases List.mem_append.1 h with h | h
      ·exact hna (List.mem_append_left _ h)
      ·exact e (List.mem_singleton.1 h)
     have ha':a=name\/a ∈ seen:=by
      rcases ha with h | h
      ·exact .inl h
      ·rcases List.mem_append.1 h with h | h
       ·exact .inr h
       ·exact absurd (List.mem_append_right _ h) hna
     exact List.mem_append_left _ (hcl a ha' hnt b hb)
   ·rw [List.length_append,List.length_append];omega
theorem loopB_iff (p:Pg) (hc:Closed p) (name:Bs):loopB p name=true ↔ Rch p name name:=by
 unfold loopB
 refine loops_spec p hc name _ [] [name] List.nodup_nil (by simp) (by simp) (by simp) (by simp) (fun a ha hna=>?_) (by simp)
 rcases ha with h | h
 ·exact absurd (by simp [h]) hna
 ·cases h
def findM (p:Pg) (s:Bs):Option Nat:=p.funcs.findIdx? fun f=>decide (f.nm=s)
def codeAt (p:Pg) (i:Nat):List In:=((p.funcs[i]?).map Fu.code).getD []
def rpush (p:Pg):List Bs->List Bool->List Nat->List Bool × List Nat
 | [],out,todo=>(out,todo)
 | c :: r,out,todo=>match findM p c with
  | some g=>if out.getD g false then rpush p r out todo else rpush p r (out.set g true) (todo++[g])
  | none=>rpush p r out todo
def rreach (p:Pg):Nat->List Bool->List Nat->List Bool
 | 0,out,_=>out
 | k+1,out,[]=>out
 | k+1,out,f :: t=>let r:=rpush p (callsM (codeAt p f)) out t;rreach p k r.1 r.2
def rloopB (p:Pg) (i:Nat):Bool:=(rreach p (2*p.funcs.length+3) (List.replicate p.funcs.length false) [i]).getD i false
theorem find_some {p:Pg} {s:Bs} {g:Nat} (h:findM p s=some g):∃ hg:g<p.funcs.length,p.funcs[g].nm=s:=by
 unfold findM at h
 rw [List.findIdx?_eq_some_iff_getElem] at h
 obtain ⟨hg,h1,_⟩:=h
 exact ⟨hg,by simpa using h1⟩
theorem find_mem {p:Pg} {s:Bs} (h:s ∈ namesP p):∃ g,findM p s=some g:=by
 cases e:findM p s with
 | some g=>exact ⟨g,rfl⟩
 | none =>
  unfold findM at e
  rw [List.findIdx?_eq_none_iff] at e
  obtain ⟨f,hf,rfl⟩:=List.mem_map.1 h
  have:=e f hf
  simp at this
def Apart (p:Pg):Prop:=(namesP p).Nodup
theorem find_at {p:Pg} (hd:Apart p) {i:Nat} (hi:i<p.funcs.length):findM p p.funcs[i].nm=some i:=by
 obtain ⟨g,hg⟩:=find_mem (p:=p) (s:=p.funcs[i].nm) (List.mem_map.2 ⟨_,List.getElem_mem hi,rfl⟩)
 obtain ⟨hlt,he⟩:=find_some hg
 have:g=i:=by
  have hl1:g<(namesP p).length:=by simpa [namesP] using hlt
  have hl2:i<(namesP p).length:=by simpa [namesP] using hi
  refine (List.getElem_inj (xs:=namesP p) (h₀:=hl1) (h₁:=hl2) hd).1 ?_
  simp only [namesP,List.getElem_map]
  exact he
 rw [hg,this]
theorem codeOf_at {p:Pg} (hd:Apart p) {i:Nat} (hi:i<p.funcs.length):codeOf p p.funcs[i].nm=codeAt p i:=by
 have h:=find_at hd hi
 unfold findM at h
 unfold codeOf codeAt
 rw [List.getElem?_eq_getElem hi]
 have h2:p.funcs.find? (fun f=>decide (f.nm=p.funcs[i].nm))=some p.funcs[i]:=by
  rw [List.find?_eq_some_iff_getElem]
  rw [List.findIdx?_eq_some_iff_getElem] at h
  obtain ⟨hg,h1,h2⟩:=h
  exact ⟨h1,i,hi,rfl,fun j hj=>by simpa using h2 j hj⟩
 rw [h2]
theorem rpush_spec (p:Pg):∀ (cs:List Bs) (out:List Bool) (todo:List Nat),out.length=p.funcs.length->(∀ c ∈ cs,c ∈ namesP p) ->
  ∃ new:List Nat,(rpush p cs out todo).2=todo++new/\(rpush p cs out todo).1.length=p.funcs.length/\(rpush p cs out todo).1.count false+new.length=out.count false /\
   (∀ g ∈ new,∃ c ∈ cs,findM p c=some g)/\(∀ g,(rpush p cs out todo).1.getD g false=true ↔ (out.getD g false=true\/g ∈ new))/\∀ c ∈ cs,∃ g,findM p c=some g/\(rpush p cs out todo).1.getD g false=true
 | [],out,todo,hl,_=>⟨[],by simp [rpush],hl,by simp [rpush],by simp,by simp [rpush],by simp⟩
 | c :: r,out,todo,hl,hc=>by
  obtain ⟨g,hg⟩:=find_mem (hc c (List.mem_cons_self ..))
  obtain ⟨hlt,_⟩:=find_some hg
  have hc':∀ d ∈ r,d ∈ namesP p:=fun d hd=>hc d (List.mem_cons_of_mem _ hd)
  unfold rpush
  simp only [hg]
  by_cases e:out.getD g false=true
  ·rw [if_pos e]
   obtain ⟨new,h1,h2,h3,h4,h5,h6⟩:=rpush_spec p r out todo hl hc'
   refine ⟨new,h1,h2,h3,fun x hx=>?_,h5,fun d hd=>?_⟩
   ·obtain ⟨d,hd,h⟩:=h4 x hx;exact ⟨d,List.mem_cons_of_mem _ hd,h⟩
   ·rcases List.mem_cons.1 hd with h | h
    ·subst h;exact ⟨g,hg,(h5 g).2 (.inl e)⟩
    ·exact h6 d h
  ·rw [if_neg e]
   have hgl:g<out.length:=by omega
   have hof:out[g]=false:=by
    rw [List.getD_eq_getElem?_getD,List.getElem?_eq_getElem hgl] at e
    simpa using e
   obtain ⟨new,h1,h2,h3,h4,h5,h6⟩:=rpush_spec p r (out.set g true) (todo++[g]) (by simpa using hl) hc'
   have hget:∀ x,(out.set g true).getD x false=true ↔ (out.getD x false=true\/x=g):=fun x=>by
    rw [List.getD_eq_getElem?_getD,List.getD_eq_getElem?_getD,List.getElem?_set]
    by_cases hx:g=x
    ·subst hx;rw [if_pos rfl,if_pos hgl];simp
    ·rw [if_neg hx];exact ⟨.inl,fun h=>h.resolve_right fun e=>hx e.symm⟩
   have hpos:0<out.count false:=List.count_pos_iff.2 (by rw [<- hof];exact List.getElem_mem hgl)
   have hcnt:(out.set g true).count false+1=out.count false:=by
    rw [List.count_set hgl,hof];simp;omega
   refine ⟨g :: new,by rw [h1];simp,h2,by rw [List.length_cons];omega,fun x hx=>?_,fun x=>?_,fun d hd=>?_⟩
   ·rcases List.mem_cons.1 hx with h | h
    ·subst h;exact ⟨c,List.mem_cons_self ..,hg⟩
    ·obtain ⟨d,hd,h⟩:=h4 x h;exact ⟨d,List.mem_cons_of_mem _ hd,h⟩
   ·rw [h5,hget,List.mem_cons,or_assoc]
   ·rcases List.mem_cons.1 hd with h | h
    ·subst h;exact ⟨g,hg,(h5 g).2 (.inl ((hget g).2 (.inr rfl)))⟩
    ·exact h6 d h
theorem rreach_spec (p:Pg) (hc:Closed p) (hd:Apart p) (i:Nat) (hi:i<p.funcs.length):∀ (k:Nat) (out:List Bool) (todo:List Nat),out.length=p.funcs.length ->
  (∀ g,(hg:g<p.funcs.length)->out.getD g false=true->Rch p p.funcs[i].nm p.funcs[g].nm)->(∀ t ∈ todo,t<p.funcs.length/\(t=i\/out.getD t false=true)) ->
  (∀ a,a<p.funcs.length->(a=i\/out.getD a false=true)->a ∉ todo->∀ b ∈ callsM (codeAt p a),∃ g,findM p b=some g/\out.getD g false=true)->2*out.count false+todo.length+1<=k ->
  ((rreach p k out todo).getD i false=true ↔ Rch p p.funcs[i].nm p.funcs[i].nm)
 | 0,out,todo,_,_,_,_,hk=>by omega
 | k+1,out,[],hl,hr,ht,hcl,hk=>by
  unfold rreach
  refine ⟨fun h=>hr i hi h,fun h=>?_⟩
  have hall:∀ b,Rch p p.funcs[i].nm b->∃ g,findM p b=some g/\out.getD g false=true:=by
   intro b hb
   induction hb with
   | base h=>exact hcl i hi (.inl rfl) (by simp) _ (by rwa [<- codeOf_at hd hi])
   | tail _ h ih =>
    obtain ⟨g,h1,h2⟩:=ih
    obtain ⟨hg,rfl⟩:=find_some h1
    exact hcl g hg (.inr h2) (by simp) _ (by rwa [<- codeOf_at hd hg])
  obtain ⟨g,h1,h2⟩:=hall _ h
  rw [find_at hd hi] at h1
  cases h1
  exact h2
 | k+1,out,f :: t,hl,hr,ht,hcl,hk=>by
  unfold rreach
  obtain ⟨hf,hfm⟩:=ht f (List.mem_cons_self ..)
  have hreach:∀ b ∈ callsM (codeAt p f),Rch p p.funcs[i].nm b:=fun b hb=>by
   rw [<- codeOf_at hd hf] at hb
   rcases hfm with e | e
   ·subst e;exact .base hb
   ·exact .tail (hr f hf e) hb
  have hcs:∀ c ∈ callsM (codeAt p f),c ∈ namesP p:=fun c h=>hc p.funcs[f].nm c (by rwa [codeOf_at hd hf])
  obtain ⟨new,h1,h2,h3,h4,h5,h6⟩:=rpush_spec p (callsM (codeAt p f)) out t hl hcs
  have hnew:∀ g ∈ new,∃ hg:g<p.funcs.length,Rch p p.funcs[i].nm p.funcs[g].nm:=fun g h=>by
   obtain ⟨c,hcm,hcf⟩:=h4 g h
   obtain ⟨hg,he⟩:=find_some hcf
   exact ⟨hg,by rw [he];exact hreach c hcm⟩
  refine rreach_spec p hc hd i hi k _ _ h2 (fun g hg h=>?_) (fun x h=>?_) (fun a ha hao hna b hb=>?_) ?_
  ·rcases (h5 g).1 h with h | h
   ·exact hr g hg h
   ·exact (hnew g h).2
  ·rw [h1] at h
   rcases List.mem_append.1 h with h | h
   ·obtain ⟨a,b⟩:=ht x (List.mem_cons_of_mem _ h)
    exact ⟨a,b.imp id fun e=>(h5 x).2 (.inl e)⟩
   ·exact ⟨(hnew x h).1,.inr ((h5 x).2 (.inr h))⟩
  ·rw [h1] at hna
   by_cases e:a=f
   ·subst e;exact h6 b hb
   ·have hnt:a ∉ f :: t:=fun h=>by
     rcases List.mem_cons.1 h with h | h
     ·exact e h
     ·exact hna (List.mem_append_left _ h)
    have ha':a=i\/out.getD a false=true:=by
     rcases hao with h | h
     ·exact .inl h
     ·rcases (h5 a).1 h with h | h
      ·exact .inr h
      ·exact absurd (List.mem_append_right _ h) hna
    obtain ⟨g,g1,g2⟩:=hcl a ha ha' hnt b hb
    exact ⟨g,g1,(h5 g).2 (.inl g2)⟩
  ·rw [h1,List.length_append]
   simp only [List.length_cons] at hk
   omega
theorem rloopB_iff (p:Pg) (hc:Closed p) (hd:Apart p) (i:Nat) (hi:i<p.funcs.length):rloopB p i=true ↔ Rch p p.funcs[i].nm p.funcs[i].nm:=by
 have hrep:∀ g,(List.replicate p.funcs.length false).getD g false=false:=fun g=>by
  rw [List.getD_eq_getElem?_getD,List.getElem?_replicate];split <;> rfl
 refine rreach_spec p hc hd i hi _ _ _ (by simp) (fun g hg h=>?_) (fun t h=>?_) (fun a ha hao hna=>?_) ?_
 ·rw [hrep] at h;cases h
 ·rw [List.mem_singleton] at h;subst h;exact ⟨hi,.inl rfl⟩
 ·rcases hao with h | h
  ·exact absurd (by simp [h]) hna
  ·rw [hrep] at h;cases h
 ·rw [List.count_replicate];simp
theorem loop_eq (p:Pg) (hc:Closed p) (hd:Apart p) (i:Nat) (hi:i<p.funcs.length):loopB p p.funcs[i].nm=rloopB p i:=by
 rw [Bool.eq_iff_iff,loopB_iff p hc,rloopB_iff p hc hd i hi]
end Go.Proofs.YtoofbgoeipijcaaGreatDoor
namespace Go.Proofs.YtoofbgoeipijcaaGreatDoor
set_option maxRecDepth 100000
set_option maxHeartbeats 2000000
set_option linter.all false
open Go.RowKit Go.Shelf
attribute [local go_sem] Oper.semAt_some
theorem clos_any (f:Fu) (s:Bs) (pp pc:Option Addr) (cp cc b:Nat) (w:World) (hb:w.cell? ⟨b,0,none⟩=some (.string ⟨s.toArray⟩)) :
  Calls Tryz.prog 158 #[.agg #[.string ⟨f.nm.toArray⟩,.slice pp f.params.length cp,.slice pc f.code.length cc,.int .i64 f.pos.1,.int .i64 f.pos.2],.pointer (some ⟨b,0,none⟩)] w fun e w'=>e=.returned (.bool (decide (f.nm=s)))/\Below w.heap.size w w':=by
 have hbo:∀ o,(w.alloc o).cell? ⟨b,0,none⟩=some (.string ⟨s.toArray⟩):=fun o=>(((Below.refl w.heap.size w).alloc lrf o).cell (p:=⟨b,0,none⟩) (cell_size hb)).trans hb
 clear hb
 obtain ⟨n,hn⟩:∃ n,f.nm=n:=⟨_,rfl⟩
 rw [hn]
 by_cases h:n=s
 ·subst h
  have t1:(n == n)=true:=beq_self_eq_true n
  have HD:=hid (decide_eq_true (rfl:n=n))
  clear hn
  go_enter Tryz.func158,Tryz.ntmps158
  go_wp2
  go_ret
  exact ⟨by first | rfl | (rw [HD.out];rfl),bA⟩
 ·have t1:(n == s)=false:=beq_eq_false_iff_ne.2 h
  have HD:=hid (decide_eq_false h)
  clear h hn
  go_enter Tryz.func158,Tryz.ntmps158
  go_wp2
  go_ret
  exact ⟨by first | rfl | (rw [HD.out];rfl),bA⟩
def idxGo (s:Bs):List Fu->Nat->Int
 | [],_ => -1
 | f :: r,k=>if f.nm=s then (k:Int) else idxGo s r (k+1)
def idxM (p:List Fu) (s:Bs):Int:=idxGo s p 0
theorem idx_find (s:Bs):∀ (l:List Fu) (k:Nat),s ∈ l.map Fu.nm->∃ i,∃ h:i<l.length,idxGo s l k=((k+i:Nat):Int)/\l.find? (fun f=>decide (f.nm=s))=some l[i]
 | [],_,h=>by simp at h
 | f :: r,k,h=>by
  unfold idxGo
  by_cases e:f.nm=s
  ·exact ⟨0,by simp,by rw [if_pos e];rfl,by simp [e]⟩
  ·rw [if_neg e]
   have h':s ∈ r.map Fu.nm:=by
    rw [List.map_cons,List.mem_cons] at h
    exact h.resolve_left fun h=>e h.symm
   obtain ⟨i,hi,h1,h2⟩:=idx_find s r (k+1) h'
   exact ⟨i+1,by simp;omega,by rw [h1];congr 1;omega,by simp [e,h2]⟩
theorem idx_any (l:List Fu) (s:Bs) (v:Value) (b:Nat) (w:World) (h:SlG kFu (·<w.heap.size) w v l) (hb:w.cell? ⟨b,0,none⟩=some (.string ⟨s.toArray⟩)) :
  Calls Tryz.prog 157 #[v,.func (.func 158) #[] #[.pointer (some ⟨b,0,none⟩)]] w fun e w'=>e=.returned (.int .i64 (idxM l s))/\Below w.heap.size w w':=by
 obtain ⟨p,c,rfl⟩:=h.slc
 have HS:=hid h;have HL:=hid h.len;have HB:=hid hb
 have HM:=hid (show idxM l s=idxGo s (l.drop 0) 0 from rfl)
 clear h hb
 go_enter Tryz.func157,Tryz.ntmps157
 go_wp2
 go_loopw [4,5,8] (fun v4 v5 iv wr=>∃ k:Nat,k<=l.length/\iv=.int .i64 (k:Int)/\idxM l s=idxGo s (l.drop k) k/\Below w.heap.size w wr) (fun _ _ iv _=>l.length - (intOf iv).toNat)
 case atStart=>exact ⟨0,Nat.zero_le _,rfl,HM.out,Below.refl _ _⟩
 case round =>
  obtain ⟨k,hk,rfl,hm,hbr⟩:=hrel
  by_cases hlt:k<l.length
  ·obtain ⟨b0,off,rfl,hR,hcells⟩:=fu_at HS.out (by omega:0<l.length)
   obtain ⟨pp,cp,pc,cc,hsp,hsc,c0,c1,c2,c3,c4⟩:=hcells k hlt
   have d0:=(hbr.cell (p:=⟨b0,off+k*5,none⟩) hR).trans c0
   have d1:=(hbr.cell (p:=⟨b0,off+k*5+1,none⟩) hR).trans c1
   have d2:=(hbr.cell (p:=⟨b0,off+k*5+2,none⟩) hR).trans c2
   have d3:=(hbr.cell (p:=⟨b0,off+k*5+3,none⟩) hR).trans c3
   have d4:=(hbr.cell (p:=⟨b0,off+k*5+4,none⟩) hR).trans c4
   have HBC:=hid ((hbr.cell (p:=⟨b,0,none⟩) (cell_size HB.out)).trans HB.out)
   have HM2:=hid (hm.trans (by rw [List.drop_eq_getElem_cons hlt,idxGo]))
   have HLT:=hid hlt;have HBR:=hid hbr
   clear hcells hsp hsc c0 c1 c2 c3 c4 hR hbr hm
   generalize l[k]=f at *
   have HCL:=hid (clos_any f s pp pc cp cc b wr HBC.out)
   by_cases hf:f.nm=s
   ·have HR:=hid (HM2.trans (if_pos hf))
    rw [decide_eq_true hf] at HCL
    clear hf hlt
    go_wp2_with (go_at_call 158;with_reducible refine HCL.out.mono ?_;rintro e w2 ⟨rfl,hb2⟩;have HB2:=hid (HBR.out.trans (hb2.mono HBR.out.size));clear hb2)
    go_ret
    exact ⟨by rw [HR.out];rfl,HB2.out⟩
   ·have HR:=hid (HM2.trans (if_neg hf))
    rw [decide_eq_false hf] at HCL
    clear hf hlt
    go_wp2_with (go_at_call 158;with_reducible refine HCL.out.mono ?_;rintro e w2 ⟨rfl,hb2⟩;have HB2:=hid (HBR.out.trans (hb2.mono HBR.out.size));clear hb2)
    go_roundw
    case rel=>exact ⟨k+1,HLT.out,by rw [wrap_next HLT.out HL.out],HR.out,HB2.out⟩
    case measure=>exact meas_next HLT.out HL.out
  ·obtain rfl:k=l.length:=by omega
   have HR:=hid (show idxM l s = -1 from by rw [hm,List.drop_length];rfl)
   have HBR:=hid hbr
   clear hlt hbr hm
   go_wp2_with fail
   go_ret
   exact ⟨by rw [HR.out];rfl,HBR.out⟩
end Go.Proofs.YtoofbgoeipijcaaGreatDoor
