/-
 A part.
-/
import Derived.Test.YtoofbgoeipijcaaGreatDoorVB30
namespace Go.Proofs.YtoofbgoeipijcaaGreatDoor
set_option linter.all false
open Go.RowKit Go.Shelf
section
variable {f:Int × Int} {ws:List Wd}
theorem name_named {p:Wd × List Wd} (h:nameP f ws=.ok p):namedB p.1.1=true:=by
 unfold nameP at h
 obtain ⟨a,h1,h⟩:=bindE h;obtain ⟨u,h2,h⟩:=bindE h
 rw [<- pureE h];exact needM_ok h2
theorem known_in {had:List Bs} {p:Bs × List Wd} (h:knownP f had ws=.ok p):namedB p.1=true/\p.1 ∈ had:=by
 unfold knownP at h
 obtain ⟨a,h1,h⟩:=bindE h;obtain ⟨u,h2,h⟩:=bindE h
 rw [<- pureE h];exact ⟨name_named h1,by have:=needM_ok h2;simpa using this⟩
theorem fresh_new {had:List Bs} {p:Bs × List Wd} (h:freshP f had ws=.ok p):namedB p.1=true/\had.contains p.1=false:=by
 unfold freshP at h
 obtain ⟨a,h1,h⟩:=bindE h;obtain ⟨u,h2,h⟩:=bindE h
 rw [<- pureE h];exact ⟨name_named h1,by have:=needM_ok h2;simpa using this⟩
theorem number_rg {most:Nat} {p:Nat × List Wd} (h:numberP f most ws=.ok p):1<=p.1/\p.1<=most:=by
 unfold numberP at h
 obtain ⟨a,h1,h⟩:=bindE h;obtain ⟨u,h2,h⟩:=bindE h;obtain ⟨u',h3,h⟩:=bindE h
 rw [<- pureE h]
 have:=needM_ok h3
 simpa using this
theorem operand_arg {p:Ag × List Wd} (h:operandP f ws=.ok p):argB p.1=true:=by
 unfold operandP at h
 obtain ⟨⟨w,r⟩,h1,h⟩:=bindE h
 dsimp only at h
 split at h
 ·obtain ⟨u,h2,h⟩:=bindE h
  rw [<- pureE h];rfl
 ·obtain ⟨u,h2,h⟩:=bindE h
  rw [<- pureE h]
  have:=needM_ok h2
  show argB ⟨w.1,0⟩=true
  unfold argB
  simp [this]
theorem operands_args:∀ (n:Nat) {ws:List Wd} {p:List Ag × List Wd},operandsP f n ws=.ok p->p.1.all argB=true/\p.1.length=n
 | 0,ws,p,h=>by unfold operandsP at h;rw [<- pureE h];exact ⟨rfl,rfl⟩
 | n+1,ws,p,h=>by
  unfold operandsP at h
  obtain ⟨⟨a,r⟩,h1,h⟩:=bindE h
  obtain ⟨⟨l,q⟩,h2,h⟩:=bindE h
  rw [<- pureE h]
  have e1:=operand_arg h1
  obtain ⟨e2,e3⟩:=operands_args n h2
  dsimp only at e1 e2 e3 ⊢
  exact ⟨by rw [List.all_cons,e1,e2];rfl,by rw [List.length_cons,e3]⟩
theorem rest_args:∀ (ws:List Wd) (k:Nat) {l:List Ag},restP f k ws=.ok l->l.all argB=true/\(l=[]\/k+l.length<=32)
 | [],k,l,h=>by unfold restP at h;rw [<- pureE h];exact ⟨rfl,.inl rfl⟩
 | w :: r,k,l,h=>by
  unfold restP at h
  obtain ⟨u,h1,h⟩:=bindE h
  obtain ⟨⟨a,q⟩,h2,h⟩:=bindE h
  obtain ⟨l',h3,h⟩:=bindE h
  rw [<- pureE h]
  have e0:k<32:=of_decide_eq_true (needM_ok h1)
  have e1:=operand_arg h2
  obtain ⟨e2,e3⟩:=rest_args r (k+1) h3
  dsimp only at e1 ⊢
  refine ⟨by rw [List.all_cons,e1,e2];rfl,.inr ?_⟩
  rw [List.length_cons]
  rcases e3 with rfl | e3
  ·simp;omega
  ·omega
theorem site_ok {sites:List Bs} {p:Bs × List Bs × List Wd} (h:siteP f sites ws=.ok p):namedB p.1=true/\((sites.contains p.1=true/\p.2.1=sites)\/(sites.contains p.1=false/\sites.length<32/\p.2.1=sites++[p.1])):=by
 unfold siteP at h
 obtain ⟨a,h1,h⟩:=bindE h;obtain ⟨u,h2,h⟩:=bindE h;obtain ⟨u',h3,h⟩:=bindE h
 rw [<- pureE h]
 refine ⟨needM_ok h3,?_⟩
 have e:=needM_ok h2
 dsimp only
 cases hc:sites.contains a.1.1 with
 | true=>exact .inl ⟨rfl,rfl⟩
 | false=>rw [hc] at e;exact .inr ⟨rfl,by simpa using e,rfl⟩
theorem decl_snoc (q:Int × Int):∀ (l seen:List Bs) {s:Bs},declM q seen l=none->namedB s=true->(seen++l).contains s=false->declM q seen (l++[s])=none
 | [],seen,s,h,hn,hc=>by
  rw [List.append_nil] at hc
  show declM q seen [s]=none
  unfold declM
  rw [if_neg (by rw [hn];decide),hc]
  rfl
 | x :: r,seen,s,h,hn,hc=>by
  unfold declM at h
  split at h
  ·cases h
  ·rename_i h1
   split at h
   ·cases h
   ·rename_i h2
    show declM q seen (x :: (r++[s]))=none
    unfold declM
    rw [if_neg h1,if_neg h2]
    exact decl_snoc q r (seen++[x]) h hn (by rw [List.append_assoc];exact hc)
theorem params_decl {q:Int × Int}:∀ (ws:List Wd) (had:List Bs) {l:List Bs},paramsP f had ws=.ok l->declM q [] had=none->declM q [] l=none
 | [],had,l,h,hd=>by unfold paramsP at h;rw [<- pureE h];exact hd
 | w :: r,had,l,h,hd=>by
  unfold paramsP at h
  obtain ⟨u,h1,h⟩:=bindE h
  obtain ⟨⟨a,q'⟩,h2,h⟩:=bindE h
  obtain ⟨e1,e2⟩:=fresh_new h2
  exact params_decl r _ h (decl_snoc q had [] hd e1 e2)
end
theorem arrs_snoc:∀ (l:List Ar) (seen:List Bs) {a:Ar},arrsM seen l=none->namedB a.nm=true->(seen++l.map Ar.nm).contains a.nm=false->1<=a.size->a.size<=64->arrsM seen (l++[a])=none
 | [],seen,a,h,hn,hc,h1,h2=>by
  simp only [List.map_nil,List.append_nil] at hc
  show arrsM seen [a]=none
  unfold arrsM
  rw [if_neg (by rw [hn];decide),hc,if_neg (by decide),if_neg (by omega)]
  rfl
 | x :: r,seen,a,h,hn,hc,h1,h2=>by
  unfold arrsM at h
  split at h
  ·cases h
  ·rename_i k1
   split at h
   ·cases h
   ·rename_i k2
    split at h
    ·cases h
    ·rename_i k3
     show arrsM seen (x :: (r++[a]))=none
     unfold arrsM
     rw [if_neg k1,if_neg k2,if_neg k3]
     exact arrs_snoc r (seen++[x.nm]) h hn (by rw [List.append_assoc];exact hc) h1 h2
section
variable {ch ar:List Bs}
theorem body_snoc {m:Bool}:∀ (c:List In) (l s:List Bs) {r r':List Bs × List Bs} {x:In},bodyM ch ar m c l s=.ok r->stepM ch ar m r.1 r.2 x=.ok r'->bodyM ch ar m (c++[x]) l s=.ok r'
 | [],l,s,r,r',x,h,hs=>by
  injection h with h
  subst h
  show bodyM ch ar m [x] l s=.ok r'
  unfold bodyM
  rw [show stepM ch ar m l s x=.ok r' from hs]
  rfl
 | y :: c,l,s,r,r',x,h,hs=>by
  unfold bodyM at h
  show bodyM ch ar m (y :: (c++[x])) l s=.ok r'
  unfold bodyM
  cases h1:stepM ch ar m l s y with
  | error e=>rw [h1] at h;cases h
  | ok q=>obtain ⟨l1,s1⟩:=q;rw [h1] at h;exact body_snoc c l1 s1 h hs
theorem funcs_snoc:∀ (gs:List Fu) (seen:List Bs) (ls:List (List Bs)) (s:List Bs) {r:List (List Bs) × List Bs} {f:Fu} {q:List Bs × List Bs},funcsM ch ar seen ls s gs=.ok r->namedB f.nm=true->(seen++gs.map Fu.nm).contains f.nm=false->f.params.length<=32->declM f.pos [] f.params=none->instrsM ch ar false f.pos f.code r.2=.ok q->funcsM ch ar seen ls s (gs++[f])=.ok (r.1++[q.1],q.2)
 | [],seen,ls,s,r,f,q,h,h1,h2,h3,h4,h5=>by
  injection h with h
  subst h
  simp only [List.map_nil,List.append_nil] at h2
  show funcsM ch ar seen ls s [f]=_
  unfold funcsM
  obtain ⟨q1,q2⟩:=q
  rw [if_neg (by rw [h1];decide),h2,if_neg (by decide),if_neg (by omega),h4,show instrsM ch ar false f.pos f.code s=.ok (q1,q2) from h5]
  rfl
 | g :: gs,seen,ls,s,r,f,q,h,h1,h2,h3,h4,h5=>by
  show funcsM ch ar seen ls s (g :: (gs++[f]))=_
  unfold funcsM at h ⊢
  split at h
  ·cases h
  ·rename_i k1
   rw [if_neg k1]
   split at h
   ·cases h
   ·rename_i k2
    rw [if_neg k2]
    split at h
    ·cases h
    ·rename_i k3
     rw [if_neg k3]
     cases k4:declM g.pos [] g.params with
     | some x=>rw [k4] at h;cases h
     | none =>
      rw [k4] at h
      dsimp only at h ⊢
      cases k5:instrsM ch ar false g.pos g.code s with
      | error x=>rw [k5] at h;cases h
      | ok p =>
       obtain ⟨l,s1⟩:=p
       rw [k5] at h
       dsimp only at h ⊢
       exact funcs_snoc gs (seen++[g.nm]) (ls++[l]) s1 h h1 (by rw [List.append_assoc];exact h2) h3 h4 h5
end
theorem arity_leF (o:Nat):arityM o<=32:=by unfold arityM;split <;> (try split) <;> (try split) <;> omega
theorem idx_rg {s:Bs} (h:opB s=true) (h1:opL.idxOf s+2 ≠ 21):2<=opL.idxOf s+2/\opL.idxOf s+2<=20:=by
 have hm:s ∈ opL:=by unfold opB at h;simpa using h
 have:=List.idxOf_lt_length_of_mem hm
 have e:opL.length=20:=by decide
 omega
theorem step_ok {S:PS} {f:Int × Int} {c:Wd} {r:List Wd} {p:In × List Bs × List Bs × List Wd} {q:Int × Int} {m:Bool} (hm:m=true->S.inn ≠ 1) (h:instrP S f c r=.ok p):stepM S.p.chans (anamesP S.p) m S.labels S.sites { p.1 with pos:=q }=.ok (p.2.1,p.2.2.1):=by
 unfold instrP at h
 split at h
 ·obtain ⟨a,h1,h⟩:=bindE h;obtain ⟨b,h2,h⟩:=bindE h;rw [<- pureE h]
  obtain ⟨e1,e2⟩:=known_in h1
  obtain ⟨e3,e4⟩:=operands_args _ h2
  simp [stepM,formB,opOkB,fieldB,wantM,fieldsL,in0,e1,e2,e3,e4]
 split at h
 ·obtain ⟨a,h1,h⟩:=bindE h;obtain ⟨b,h2,h⟩:=bindE h;rw [<- pureE h]
  have e1:=name_named h1
  obtain ⟨e3,e4⟩:=known_in h2
  simp [stepM,formB,opOkB,fieldB,wantM,fieldsL,in0,e1,e3,e4]
 split at h
 ·obtain ⟨a,h1,h⟩:=bindE h;obtain ⟨b,h2,h⟩:=bindE h;rw [<- pureE h]
  obtain ⟨e1,e2⟩:=known_in h1
  obtain ⟨e3,e4⟩:=operands_args _ h2
  simp [stepM,formB,opOkB,fieldB,wantM,fieldsL,in0,e1,e2,e3,e4]
 split at h
 ·obtain ⟨a,h1,h⟩:=bindE h;rw [<- pureE h]
  have e1:=name_named h1
  simp [stepM,formB,opOkB,fieldB,wantM,fieldsL,in0,e1]
 split at h
 ·obtain ⟨a,h1,h⟩:=bindE h;obtain ⟨b,h2,h⟩:=bindE h;rw [<- pureE h]
  have e1:=name_named h2
  obtain ⟨e3,e4⟩:=operands_args _ h1
  simp [stepM,formB,opOkB,fieldB,wantM,fieldsL,in0,e1,e3,e4]
 split at h
 ·rw [<- pureE h]
  simp [stepM,formB,opOkB,fieldB,wantM,fieldsL,in0]
 split at h
 ·obtain ⟨u,h0,h⟩:=bindE h;obtain ⟨a,h1,h⟩:=bindE h;rw [<- pureE h]
  have hn:S.inn=1:=of_decide_eq_true (needM_ok h0)
  obtain ⟨e3,e4⟩:=operands_args _ h1
  have hmf:m=false:=by cases m with | false=>rfl | true=>exact absurd hn (hm rfl)
  simp [stepM,formB,opOkB,fieldB,wantM,fieldsL,in0,e3,e4,hmf]
 split at h
 ·rename_i s hl
  obtain ⟨u,h0,h⟩:=bindE h;rw [<- pureE h]
  have e1:namedB s=true:=by
   unfold labelP at hl
   split at hl
   ·rename_i hg;injection hl with hl;rw [<- hl];exact hg.2
   ·cases hl
  have e2:S.labels.contains s=false:=by have:=needM_ok h0;simpa using this
  have e3:s ∉ S.labels:=by simpa using e2
  simp [stepM,formB,opOkB,fieldB,wantM,fieldsL,in0,e1,e3]
 ·obtain ⟨u,h0,h⟩:=bindE h;obtain ⟨a,h1,h⟩:=bindE h;rw [<- pureE h]
  have hd:=needM_ok h0
  show stepM S.p.chans (anamesP S.p) m S.labels S.sites { a.1 with pos:=q }=.ok (S.labels,a.2.1)
  clear h0 h
  unfold assignP at h1
  obtain ⟨b,g1,h1⟩:=bindE h1
  try dsimp only at h1
  obtain ⟨u',g2,h1⟩:=bindE h1
  obtain ⟨v,g3,h1⟩:=bindE h1
  try dsimp only at h1
  split at h1
  ·obtain ⟨a1,k1,h1⟩:=bindE h1;obtain ⟨a2,k2,h1⟩:=bindE h1;rw [<- pureE h1]
   obtain ⟨e1,e2⟩:=known_in k1
   obtain ⟨e3,e4⟩:=operands_args _ k2
   simp [stepM,formB,opOkB,fieldB,wantM,fieldsL,in0,hd,e1,e2,e3,e4]
  split at h1
  ·obtain ⟨⟨a1,b1,c1⟩,k1,h1⟩:=bindE h1;obtain ⟨a2,k2,h1⟩:=bindE h1;rw [<- pureE h1]
   obtain ⟨e1,e2⟩:=site_ok k1
   obtain ⟨e3,e4⟩:=operands_args _ k2
   dsimp only at e1 e2
   rcases e2 with ⟨e5,e6⟩ | ⟨e5,e6,e7⟩
   ·have e8:a1 ∈ S.sites:=by simpa using e5
    simp [stepM,formB,opOkB,fieldB,wantM,fieldsL,in0,hd,e1,e3,e4,e8,e6]
   ·have e8:a1 ∉ S.sites:=by simpa using e5
    simp [stepM,formB,opOkB,fieldB,wantM,fieldsL,in0,hd,e1,e3,e4,e8,e6,e7]
  split at h1
  ·obtain ⟨a1,k1,h1⟩:=bindE h1;obtain ⟨a2,k2,h1⟩:=bindE h1;rw [<- pureE h1]
   have e1:=name_named k1
   obtain ⟨e3,e4⟩:=rest_args _ _ k2
   have e5:a2.length<=32:=by rcases e4 with rfl | e4;exact Nat.zero_le _;omega
   simp [stepM,formB,opOkB,fieldB,wantM,fieldsL,in0,hd,e1,e3,e5]
  split at h1
  ·rename_i hv
   obtain ⟨a2,k2,h1⟩:=bindE h1;rw [<- pureE h1]
   obtain ⟨e3,e4⟩:=operands_args _ k2
   simp only [Bool.and_eq_true,decide_eq_true_eq] at hv
   obtain ⟨i1,i2⟩:=idx_rg hv.1 hv.2
   have e5:=arity_leF (opL.idxOf v.1.1+2)
   generalize opL.idxOf v.1.1+2=oo at *
   simp [stepM,formB,opOkB,fieldB,wantM,fieldsL,in0,hd,e3,e4,i1,i2,e5]
  ·obtain ⟨a2,k2,h1⟩:=bindE h1;rw [<- pureE h1]
   obtain ⟨e3,e4⟩:=operands_args _ k2
   simp [stepM,formB,opOkB,fieldB,wantM,fieldsL,in0,hd,e3,e4]
structure CkI (S:PS):Prop where
 wd:S.step=0\/(1<=S.p.width/\S.p.width<=64)
 in0:S.inn ≠ 0->S.step ≠ 0
 ch:declM (0,0) [] S.p.chans=none
 ar:arrsM [] S.p.arrays=none
 fs:S.step<=2->S.p.funcs=[]
 mn:S.inn<=1->S.p.main=[]
 b0:S.inn=0->∃ ls,funcsM S.p.chans (anamesP S.p) [] [] [] S.p.funcs=.ok (ls,S.sites)
 b1:S.inn=1->∃ gs f ls s0,S.p.funcs=gs++[f]/\funcsM S.p.chans (anamesP S.p) [] [] [] gs=.ok (ls,s0)/\namedB f.nm=true/\(gs.map Fu.nm).contains f.nm=false/\f.params.length<=32/\declM f.pos [] f.params=none/\bodyM S.p.chans (anamesP S.p) false f.code [] s0=.ok (S.labels,S.sites)/\f.code.length<=1024
 b2:S.inn=2\/S.inn=3->∃ ls s0,funcsM S.p.chans (anamesP S.p) [] [] [] S.p.funcs=.ok (ls,s0)/\bodyM S.p.chans (anamesP S.p) true S.p.main [] s0=.ok (S.labels,S.sites)/\S.p.main.length<=1024
theorem ck0:CkI ps0P:=⟨.inl rfl,fun h=>absurd rfl h,rfl,rfl,fun _=>rfl,fun _=>rfl,fun _=>⟨[],rfl⟩,fun h=>(by cases h),fun h=>(by rcases h with h | h <;> cases h)⟩
theorem declare_ck {S S':PS} {c:Wd} {r:List Wd} (h:CkI S) (hn:S.inn=0) (hm:declareP S c r=.ok S'):CkI S':=by
 unfold declareP at hm
 split at hm
 ·rename_i hc
  obtain ⟨a,h1,hm⟩:=bindE hm;obtain ⟨b,h2,hm⟩:=bindE hm;rw [<- pureE hm]
  obtain ⟨e1,e2⟩:=number_rg h1
  refine ⟨.inr ⟨?_,?_⟩,fun e=>absurd hn e,h.ch,h.ar,fun _=>h.fs (by omega),h.mn,h.b0,fun e=>absurd (hn.symm.trans e) (by decide),fun e=>?_⟩
  ·show (1:Int)<=(a.1:Int);omega
  ·show (a.1:Int)<=64;omega
  ·rcases e with e | e <;> exact absurd (hn.symm.trans e) (by decide)
 split at hm
 ·rename_i hc
  obtain ⟨u,h0,hm⟩:=bindE hm;obtain ⟨a,h1,hm⟩:=bindE hm;obtain ⟨b,h2,hm⟩:=bindE hm;rw [<- pureE hm]
  obtain ⟨e1,e2⟩:=fresh_new h1
  have hf:S.p.funcs=[]:=h.fs (by omega)
  obtain ⟨ls,hb⟩:=h.b0 hn
  rw [hf] at hb
  refine ⟨h.wd,h.in0,decl_snoc _ _ [] h.ch e1 e2,h.ar,h.fs,h.mn,fun _=>⟨ls,?_⟩,fun e=>absurd (hn.symm.trans e) (by decide),fun e=>?_⟩
  ·show funcsM _ _ [] [] [] S.p.funcs=_;rw [hf];exact hb
  ·rcases e with e | e <;> exact absurd (hn.symm.trans e) (by decide)
 split at hm
 ·rename_i hc
  obtain ⟨u,h0,hm⟩:=bindE hm;obtain ⟨a,h1,hm⟩:=bindE hm;obtain ⟨a2,h12,hm⟩:=bindE hm;obtain ⟨b,h2,hm⟩:=bindE hm;rw [<- pureE hm]
  obtain ⟨e1,e2⟩:=fresh_new h1
  obtain ⟨e3,e4⟩:=number_rg h12
  have hf:S.p.funcs=[]:=h.fs (by omega)
  obtain ⟨ls,hb⟩:=h.b0 hn
  rw [hf] at hb
  have hwd:1<=S.p.width/\S.p.width<=64:=by rcases h.wd with e | e;omega;exact e
  refine ⟨.inr hwd,fun e=>absurd hn e,h.ch,arrs_snoc _ [] h.ar e1 e2 (by show (1:Int)<=(a2.1:Int);omega) (by show (a2.1:Int)<=64;omega),fun _=>hf,h.mn,fun _=>⟨ls,?_⟩,fun e=>absurd (hn.symm.trans e) (by decide),fun e=>?_⟩
  ·show funcsM _ _ [] [] [] S.p.funcs=_;rw [hf];exact hb
  ·rcases e with e | e <;> exact absurd (hn.symm.trans e) (by decide)
 split at hm
 ·rename_i hc
  obtain ⟨u,h0,hm⟩:=bindE hm;obtain ⟨a,h1,hm⟩:=bindE hm;obtain ⟨b,h2,hm⟩:=bindE hm;rw [<- pureE hm]
  obtain ⟨e1,e2⟩:=fresh_new h1
  have hwd:1<=S.p.width/\S.p.width<=64:=by rcases h.wd with e | e;omega;exact e
  obtain ⟨ls,hb⟩:=h.b0 hn
  refine ⟨.inr hwd,fun _=>(show 3 ≠ 0 by decide),h.ch,h.ar,fun e=>absurd (show 3<=2 from e) (by decide),fun _=>h.mn (by omega),fun e=>absurd (show 1=0 from e) (by decide),fun _=>⟨S.p.funcs,⟨a.1,b,[],wpos c⟩,ls,S.sites,rfl,hb,e1,e2,params_len _ _ _ (Nat.zero_le _) h2,params_decl _ _ h2 rfl,rfl,Nat.zero_le _⟩,fun e=>?_⟩
  rcases e with e | e
  ·exact absurd (show 1=2 from e) (by decide)
  ·exact absurd (show 1=3 from e) (by decide)
 split at hm
 ·rename_i hc
  obtain ⟨b,h2,hm⟩:=bindE hm;rw [<- pureE hm]
  have hwd:1<=S.p.width/\S.p.width<=64:=by rcases h.wd with e | e;omega;exact e
  obtain ⟨ls,hb⟩:=h.b0 hn
  have hmn:=h.mn (by omega)
  refine ⟨.inr hwd,fun _=>(show S.step ≠ 0 by omega),h.ch,h.ar,h.fs,fun e=>absurd (show 2<=1 from e) (by decide),fun e=>absurd (show 2=0 from e) (by decide),fun e=>absurd (show 2=1 from e) (by decide),fun _=>⟨ls,S.sites,hb,?_,?_⟩⟩
  ·show bodyM _ _ true S.p.main [] S.sites=_;rw [hmn];rfl
  ·show S.p.main.length<=1024;rw [hmn];exact Nat.zero_le _
 ·cases hm
theorem instruct_ck {S S':PS} {c:Wd} {r:List Wd} (h:CkI S) (hin:S.inn=1\/S.inn=2) (hm:instructP S c r=.ok S'):CkI S':=by
 unfold instructP at hm
 split at hm
 ·obtain ⟨u,h0,hm⟩:=bindE hm;rw [<- pureE hm]
  rcases hin with hin | hin
  ·obtain ⟨gs,f,ls,s0,g1,g2,g3,g4,g5,g6,g7,g8⟩:=h.b1 hin
   have hs:S.step ≠ 0:=h.in0 (by omega)
   have e0:(if S.inn=2 then 3 else 0)=0:=by rw [if_neg (by omega)]
   refine ⟨h.wd,fun e=>hs,h.ch,h.ar,h.fs,fun _=>h.mn (by omega),fun _=>⟨ls++[S.labels],?_⟩,fun e=>absurd (e0.symm.trans e) (by decide),fun e=>?_⟩
   ·show funcsM S.p.chans (anamesP S.p) [] [] [] S.p.funcs=.ok (ls++[S.labels],S.sites)
    rw [g1]
    exact funcs_snoc (q:=(S.labels,S.sites)) gs [] [] [] g2 g3 g4 g5 g6 (by unfold instrsM;rw [if_neg (by omega)];exact g7)
   ·rcases e with e | e <;> exact absurd (e0.symm.trans e) (by decide)
  ·have e0:(if S.inn=2 then 3 else 0)=3:=by rw [if_pos hin]
   have hs:S.step ≠ 0:=h.in0 (by omega)
   refine ⟨h.wd,fun e=>hs,h.ch,h.ar,h.fs,fun e=>absurd (show (if S.inn=2 then 3 else 0)<=1 from e) (by rw [e0];decide),fun e=>absurd (e0.symm.trans e) (by decide),fun e=>absurd (e0.symm.trans e) (by decide),fun _=>h.b2 (.inl hin)⟩
 ·obtain ⟨u,h0,hm⟩:=bindE hm;obtain ⟨a,h1,hm⟩:=bindE hm;obtain ⟨b,h2,hm⟩:=bindE hm;rw [<- pureE hm]
  have hl:(codeP S).length<1024:=of_decide_eq_true (needM_ok h0)
  rcases hin with hin | hin
  ·obtain ⟨gs,f,ls,s0,g1,g2,g3,g4,g5,g6,g7,g8⟩:=h.b1 hin
   obtain ⟨e1,e2⟩:=putCode_1 (l:=codeP S++[{ a.1 with pos:=wpos c }]) hin g1
   have hst:=step_ok (q:=wpos c) (m:=false) (fun e=>by cases e) h1
   rw [e2] at hl e1
   show CkI { S with p:=putCode S (codeP S++[{ a.1 with pos:=wpos c }]),labels:=a.2.1,sites:=a.2.2.1 }
   rw [e2,e1]
   refine ⟨h.wd,h.in0,h.ch,h.ar,fun e=>?_,h.mn,fun e=>absurd (hin.symm.trans e) (by decide),fun _=>⟨gs,{ f with code:=f.code++[{ a.1 with pos:=wpos c }] },ls,s0,rfl,g2,g3,g4,g5,g6,body_snoc _ _ _ g7 hst,?_⟩,fun e=>?_⟩
   ·have:=h.fs e;rw [g1] at this;simp at this
   ·show (f.code++[_]).length<=1024;rw [List.length_append];exact hl
   ·rcases e with e | e <;> exact absurd (hin.symm.trans e) (by decide)
  ·obtain ⟨ls,s0,g1,g2,g3⟩:=h.b2 (.inl hin)
   have e2:codeP S=S.p.main:=by unfold codeP;rw [if_neg (by omega)]
   have e1:putCode S (codeP S++[{ a.1 with pos:=wpos c }])={ S.p with main:=S.p.main++[{ a.1 with pos:=wpos c }] }:=by unfold putCode;rw [if_neg (by omega),e2]
   have hst:=step_ok (q:=wpos c) (m:=true) (fun _=>by omega) h1
   rw [e2] at hl
   show CkI { S with p:=putCode S (codeP S++[{ a.1 with pos:=wpos c }]),labels:=a.2.1,sites:=a.2.2.1 }
   rw [e1]
   refine ⟨h.wd,h.in0,h.ch,h.ar,h.fs,fun e=>absurd (show S.inn<=1 from e) (by omega),fun e=>absurd (hin.symm.trans e) (by decide),fun e=>absurd (hin.symm.trans e) (by decide),fun _=>⟨ls,s0,g1,body_snoc _ _ _ g2 hst,?_⟩⟩
   show (S.p.main++[_]).length<=1024
   rw [List.length_append];exact hl
theorem line_ck {S S':PS} {l:List Wd} (h:CkI S) (hs:S.inn<=3) (hm:lineP S l=.ok S'):CkI S':=by
 cases l with
 | nil=>cases hm
 | cons w r =>
  unfold lineP at hm
  dsimp only at hm
  split at hm
  ·rename_i h0;exact declare_ck h h0 hm
  split at hm
  ·cases hm
  ·exact instruct_ck h (by omega) hm
theorem lines_ck:∀ (o:List (List Wd)) {S S':PS},CkI S->SIv S->linesP S o=.ok S'->CkI S'/\SIv S'
 | [],S,S',h,hs,hm=>by rw [<- pureE (show pure S=_ from hm)];exact ⟨h,hs⟩
 | l :: r,S,S',h,hs,hm=>by
  rw [linesP_cons] at hm
  cases h1:lineP S l with
  | error e=>rw [h1] at hm;cases hm
  | ok S1=>rw [h1] at hm;exact lines_ck r (line_ck h hs.nn h1) (line_keep hs h1) hm
theorem check_late {S:PS} (h:CkI S) (hs:SIv S) (hn:S.inn=3):∃ ls ml,checkM S.p=match laterM S.p ls S.p.funcs with
  | some f=>f
  | none=>match targetsM S.p ml S.p.main with
   | some f=>f
   | none=>match loopsAllM S.p S.p.funcs with
    | some f=>f
    | none=>((0,0),0):=by
 obtain ⟨ls,s0,g1,g2,g3⟩:=h.b2 (.inr hn)
 refine ⟨ls,S.labels,?_⟩
 have hst:S.step ≠ 0:=h.in0 (by omega)
 have hwd:1<=S.p.width/\S.p.width<=64:=by rcases h.wd with e | e;exact absurd e hst;exact e
 have k1:=hs.ok.ch;have k2:=hs.ok.ar;have k3:=hs.ok.fu
 unfold checkM
 rw [if_neg (by omega),if_neg (by omega),h.ch]
 dsimp only
 rw [if_neg (by omega),h.ar]
 dsimp only
 rw [if_neg (by omega),show funcsM S.p.chans (S.p.arrays.map Ar.nm) [] [] [] S.p.funcs=.ok (ls,s0) from g1]
 dsimp only
 rw [show instrsM S.p.chans (S.p.arrays.map Ar.nm) true (0,0) S.p.main s0=.ok (S.labels,S.sites) from by unfold instrsM;rw [if_neg (by omega)];exact g2]
 rfl
section
variable {Q:Int × Int->Prop} {p:Pg}
def lateC (f:Flt):Prop:=f.2=4\/f.2=6\/f.2=9
theorem target_pos {l:List Bs} {x:In} (hx:Q x.pos) {f:Flt} (h:targetM p l x=some f):Q f.1/\lateC f:=by
 unfold targetM at h
 split at h
 ·split at h
  ·cases h
  ·injection h with h;subst h;exact ⟨hx,.inr (.inl rfl)⟩
 ·split at h
  ·split at h
   ·injection h with h;subst h;exact ⟨hx,.inr (.inl rfl)⟩
   ·split at h
    ·cases h
    ·injection h with h;subst h;exact ⟨hx,.inl rfl⟩
  ·cases h
theorem targets_pos {l:List Bs}:∀ (c:List In),(∀ x ∈ c,Q x.pos)->∀ {f:Flt},targetsM p l c=some f->Q f.1/\lateC f
 | [],_,f,h=>by cases h
 | x :: r,hx,f,h=>by
  unfold targetsM at h
  split at h
  ·rename_i g hg;injection h with h;subst h;exact target_pos (hx x (List.mem_cons_self ..)) hg
  ·exact targets_pos r (fun y hy=>hx y (List.mem_cons_of_mem _ hy)) h
theorem later_pos:∀ (l:List Fu) (ls:List (List Bs)),(∀ g ∈ l,∀ x ∈ g.code,Q x.pos)->∀ {f:Flt},laterM p ls l=some f->Q f.1/\lateC f
 | [],ls,_,f,h=>by cases ls <;> cases h
 | g :: r,ls,hx,f,h=>by
  unfold laterM at h
  split at h
  ·rename_i k hk;injection h with h;subst h;exact targets_pos _ (hx g (List.mem_cons_self ..)) hk
  ·exact later_pos r _ (fun y hy=>hx y (List.mem_cons_of_mem _ hy)) h
theorem loops_pos:∀ (l:List Fu),(∀ g ∈ l,Q g.pos)->∀ {f:Flt},loopsAllM p l=some f->Q f.1/\lateC f
 | [],_,f,h=>by cases h
 | g :: r,hx,f,h=>by
  unfold loopsAllM at h
  split at h
  ·injection h with h;subst h;exact ⟨hx g (List.mem_cons_self ..),.inr (.inr rfl)⟩
  ·exact loops_pos r (fun y hy=>hx y (List.mem_cons_of_mem _ hy)) h
end
theorem late_pos {Q:Int × Int->Prop} {S:PS} (h:CkI S) (hs:SIv S) (hn:S.inn=3) (hq:PQ Q S.p) (hc:(checkM S.p).2 ≠ 0):Q (checkM S.p).1/\lateC (checkM S.p):=by
 obtain ⟨ls,ml,e⟩:=check_late h hs hn
 rw [e] at hc ⊢
 split
 ·rename_i f hf;exact later_pos _ _ hq.fc hf
 ·rename_i hf
  rw [hf] at hc
  dsimp only at hc
  split
  ·rename_i f hg;exact targets_pos _ hq.mn hg
  ·rename_i hg
   rw [hg] at hc
   dsimp only at hc
   split
   ·rename_i f hl;exact loops_pos _ hq.fp hl
   ·rename_i hl;rw [hl] at hc;exact absurd rfl hc
end Go.Proofs.YtoofbgoeipijcaaGreatDoor
