/-
 Reading programs: the text of what is read is hardly longer than what was read; what stands in the text of a program. No program in sight.
-/
import Derived.Test.YtbijamcoibonkaaDoorCB19
import Derived.Lib.ItoaNum
namespace Go.Proofs.YtbijamcoibonkaaDoor
set_option linter.unusedSimpArgs false
set_option linter.unusedVariables false
open Go.RowKit Go.Shelf
def mb (l:List Bs):Nat:=(l.map fun w=>w.length+1).sum
theorem mb_nil:mb []=0:=rfl
theorem mb_cons (w:Bs) (l:List Bs):mb (w :: l)=w.length+1+mb l:=by simp [mb]
theorem mb_app (a b:List Bs):mb (a++b)=mb a+mb b:=by simp [mb]
abbrev mw (ws:List Wd):Nat:=mb (tx ws)
theorem mw_cons (w:Wd) (l:List Wd):mw (w :: l)=w.1.length+1+mw l:=mb_cons _ _
theorem jn_mb:∀ l:List Bs,l ≠ []→(jn l).length+1=mb l
 | [],h=>absurd rfl h
 | [w],_=>by rw [jn_one,mb_cons,mb_nil]
 | w :: v :: r,_=>by
  rw [jn_cons2,mb_cons,List.length_append,List.length_cons]
  have:=jn_mb (v :: r) (by simp)
  omega
theorem text_mb:∀ L:List (List Bs),(∀ l ∈ L,l ≠ [])→(textT (L.map jn)).length=(L.map mb).sum
 | [],_=>rfl
 | l :: r,h=>by
  have h1:=jn_mb l (h l (List.mem_cons_self ..))
  have h2:=text_mb r fun k hk=>h k (List.mem_cons_of_mem _ hk)
  unfold textT at h2 ⊢
  rw [List.map_cons,List.flatMap_cons,List.length_append,List.length_append,h2,List.map_cons,List.sum_cons]
  simp only [List.length_cons,List.length_nil]
  omega
theorem dig_le:∀ (k u:Nat),1≤k→u<10 ^ k→Lib.nDigits u≤k
 | 0,u,h,_=>absurd h (by omega)
 | k+1,u,_,hu=>by
  by_cases h:u<10
  ·rw [Lib.nDigits_small h];omega
  ·rw [Lib.nDigits_big h]
   have hk:1≤k:=by
    cases k with
    | zero=>simp at hu;omega
    | succ k=>omega
   have:=dig_le k (u / 10) hk (by rw [Nat.pow_succ] at hu;omega)
   omega
theorem numGo_lt:∀ (s:Bs) (n k:Nat),(numGo s n).2=0→s.all digB=true→n<10 ^ k→(numGo s n).1<10 ^ (k+s.length)
 | [],n,k,_,_,hn=>hn
 | c :: r,n,k,h,ha,hn=>by
  unfold numGo at h ⊢
  simp only [List.all_cons,Bool.and_eq_true] at ha
  have hc:c.toNat≤57:=by
   have:=ha.1
   unfold digB at this
   simp at this
   omega
  split at h
  ·exact absurd h (by decide)
  ·rename_i hlt
   rw [if_neg hlt]
   have:=numGo_lt r (10*n+(c.toNat - 48)) (k+1) h ha.2 (by rw [Nat.pow_succ];omega)
   rw [show k+(c :: r).length=k+1+r.length by rw [List.length_cons];omega]
   exact this
theorem numR_dig {w:Bs} (h:(numR w).2=0):(Lib.decDigits (numR w).1).length≤w.length:=by
 rw [Lib.decDigits_length]
 unfold numR at h ⊢
 split at h
 ·exact absurd h (by decide)
 ·rename_i hl
  rw [if_neg hl]
  split at h
  ·rename_i ha
   rw [if_pos ha]
   have:=numGo_lt w 0 0 h ha (by decide)
   exact dig_le _ _ (by omega) (by simpa using this)
  ·exact absurd h (by decide)
theorem named_neA {s:Bs} (h:namedB s=true):s ≠ []:=by rintro rfl;revert h;decide
section
variable {f:Int × Int} {ws:List Wd}
theorem next_mb {p:Wd × List Wd} (h:nextP f ws = .ok p):mw ws=p.1.1.length+1+mw p.2:=by
 cases ws with
 | nil=>cases h
 | cons a r=>injection h with h;subst h;exact mw_cons _ _
theorem name_mb {p:Wd × List Wd} (h:nameP f ws = .ok p):mw ws=p.1.1.length+1+mw p.2:=by
 unfold nameP at h
 obtain ⟨a,h1,h⟩:=bindE h;obtain ⟨u,h2,h⟩:=bindE h
 rw [← pureE h];exact next_mb h1
theorem fresh_mb {had:List Bs} {p:Bs × List Wd} (h:freshP f had ws = .ok p):mw ws=p.1.length+1+mw p.2:=by
 unfold freshP at h
 obtain ⟨a,h1,h⟩:=bindE h;obtain ⟨u,h2,h⟩:=bindE h
 rw [← pureE h];exact name_mb h1
theorem known_mb {had:List Bs} {p:Bs × List Wd} (h:knownP f had ws = .ok p):mw ws=p.1.length+1+mw p.2:=by
 unfold knownP at h
 obtain ⟨a,h1,h⟩:=bindE h;obtain ⟨u,h2,h⟩:=bindE h
 rw [← pureE h];exact name_mb h1
theorem site_mb {sites:List Bs} {p:Bs × List Bs × List Wd} (h:siteP f sites ws = .ok p):mw ws=p.1.length+1+mw p.2.2:=by
 unfold siteP at h
 obtain ⟨a,h1,h⟩:=bindE h;obtain ⟨u,h2,h⟩:=bindE h;obtain ⟨u',h3,h⟩:=bindE h
 rw [← pureE h];exact next_mb h1
theorem number_mb {most:Nat} {p:Nat × List Wd} (h:numberP f most ws = .ok p):(Lib.decDigits p.1).length+1+mw p.2≤mw ws:=by
 unfold numberP at h
 obtain ⟨a,h1,h⟩:=bindE h;obtain ⟨u,h2,h⟩:=bindE h;obtain ⟨u',h3,h⟩:=bindE h
 rw [← pureE h,next_mb h1]
 have:=numR_dig (of_decide_eq_true (needM_ok h2))
 show (Lib.decDigits (numR a.1.1).1).length+1+mw a.2≤a.1.1.length+1+mw a.2
 omega
theorem operand_mb {p:Ag × List Wd} (h:operandP f ws = .ok p):(argT p.1).length+1+mw p.2≤mw ws:=by
 unfold operandP at h
 obtain ⟨⟨w,r⟩,h1,h⟩:=bindE h
 dsimp only at h
 have hn:=next_mb h1
 dsimp only at hn
 split at h
 ·obtain ⟨u,h2,h⟩:=bindE h
  rw [← pureE h,hn]
  have:=numR_dig (of_decide_eq_true (needM_ok h2))
  show (Lib.decDigits (numR w.1).1).length+1+mw r≤w.1.length+1+mw r
  omega
 ·obtain ⟨u,h2,h⟩:=bindE h
  rw [← pureE h,hn]
  show (argT ⟨w.1,0⟩).length+1+_≤_
  unfold argT
  rw [if_neg (named_neA (needM_ok h2))]
  exact Nat.le_refl _
theorem operands_mb:∀ (n:Nat) {ws:List Wd} {p:List Ag × List Wd},operandsP f n ws = .ok p→mb (p.1.map argT)+mw p.2≤mw ws
 | 0,ws,p,h=>by unfold operandsP at h;rw [← pureE h];exact Nat.le_of_eq (Nat.zero_add _)
 | n+1,ws,p,h=>by
  unfold operandsP at h
  obtain ⟨⟨a,r⟩,h1,h⟩:=bindE h
  obtain ⟨⟨l,q⟩,h2,h⟩:=bindE h
  rw [← pureE h]
  have e1:=operand_mb h1
  have e2:=operands_mb n h2
  dsimp only at e1 e2 ⊢
  rw [List.map_cons,mb_cons]
  omega
theorem rest_mb:∀ (ws:List Wd) (k:Nat) {l:List Ag},restP f k ws = .ok l→mb (l.map argT)≤mw ws
 | [],k,l,h=>by unfold restP at h;rw [← pureE h];exact Nat.le_refl _
 | w :: r,k,l,h=>by
  unfold restP at h
  obtain ⟨u,h1,h⟩:=bindE h
  obtain ⟨⟨a,q⟩,h2,h⟩:=bindE h
  obtain ⟨l',h3,h⟩:=bindE h
  rw [← pureE h]
  have e1:=operand_mb h2
  have e2:=rest_mb r (k+1) h3
  rw [mw_cons] at e1 ⊢
  rw [List.map_cons,mb_cons]
  have e3:mw []=0:=rfl
  dsimp only at e1 e2 ⊢
  omega
theorem params_mb:∀ (ws:List Wd) (had:List Bs) {l:List Bs},paramsP f had ws = .ok l→mb l≤mb had+mw ws
 | [],had,l,h=>by unfold paramsP at h;rw [← pureE h];exact Nat.le_add_right _ _
 | w :: r,had,l,h=>by
  unfold paramsP at h
  obtain ⟨u,h1,h⟩:=bindE h
  obtain ⟨⟨a,q⟩,h2,h⟩:=bindE h
  have e1:=fresh_mb h2
  have e2:=params_mb r _ h
  rw [mb_app,mb_cons,mb_nil] at e2
  rw [mw_cons] at e1 ⊢
  have e3:mw []=0:=rfl
  dsimp only at e1 e2 ⊢
  omega
theorem instr_mb {S:PS} {c:Wd} {p:In × List Bs × List Bs × List Wd} (h:instrP S f c ws = .ok p):mb (wlI p.1)+mw p.2.2.2≤mw (c :: ws):=by
 rw [mw_cons]
 unfold instrP at h
 split at h
 ·rename_i hc
  obtain ⟨a,h1,h⟩:=bindE h;obtain ⟨b,h2,h⟩:=bindE h;rw [← pureE h,hc,known_mb h1]
  have:=operands_mb _ h2
  show mb (wStore :: a.1 :: b.1.map argT)+mw b.2≤_
  rw [mb_cons,mb_cons]
  show 5+1+_+_≤5+1+_
  omega
 split at h
 ·rename_i hc
  obtain ⟨a,h1,h⟩:=bindE h;obtain ⟨b,h2,h⟩:=bindE h;rw [← pureE h,hc,name_mb h1,known_mb h2]
  show mb [wIn,a.1.1,b.1]+mw b.2≤_
  rw [mb_cons,mb_cons,mb_cons,mb_nil]
  show 2+1+_+_≤2+1+_
  omega
 split at h
 ·rename_i hc
  obtain ⟨a,h1,h⟩:=bindE h;obtain ⟨b,h2,h⟩:=bindE h;rw [← pureE h,hc,known_mb h1]
  have:=operands_mb _ h2
  show mb (wOut :: a.1 :: b.1.map argT)+mw b.2≤_
  rw [mb_cons,mb_cons]
  show 3+1+_+_≤3+1+_
  omega
 split at h
 ·rename_i hc
  obtain ⟨a,h1,h⟩:=bindE h;rw [← pureE h,hc,name_mb h1]
  show mb (wJump :: a.1.1 :: [])+mw a.2≤_
  rw [mb_cons,mb_cons,mb_nil]
  show 4+1+_+_≤4+1+_
  omega
 split at h
 ·rename_i hc
  obtain ⟨a,h1,h⟩:=bindE h;obtain ⟨b,h2,h⟩:=bindE h;rw [← pureE h,hc]
  have:=operands_mb _ h1
  have h3:=name_mb h2
  show mb (wIf :: (a.1.map argT++[b.1.1]))+mw b.2≤_
  rw [mb_cons,mb_app,mb_cons,mb_nil]
  show 2+1+_+_≤2+1+_
  omega
 split at h
 ·rename_i hc
  rw [← pureE h,hc]
  exact Nat.le_refl _
 split at h
 ·rename_i hc
  obtain ⟨u,h0,h⟩:=bindE h;obtain ⟨a,h1,h⟩:=bindE h;rw [← pureE h,hc]
  have:=operands_mb _ h1
  show mb (wRet :: a.1.map argT)+mw a.2≤_
  rw [mb_cons]
  show 3+1+_+_≤3+1+_
  omega
 split at h
 ·rename_i s hl
  obtain ⟨u,h0,h⟩:=bindE h;rw [← pureE h]
  show mb [s++[58]]+mw ws≤_
  unfold labelP at hl
  split at hl
  ·rename_i hg
   injection hl with hl
   have:s++[58]=c.1:=by
    obtain ⟨ys,hy⟩:=List.getLast?_eq_some_iff.1 hg.1
    rw [← hl,hy,List.dropLast_concat]
   rw [this,mb_cons,mb_nil]
   omega
  ·cases hl
 ·obtain ⟨u,h0,h⟩:=bindE h;obtain ⟨a,h1,h⟩:=bindE h;rw [← pureE h]
  show mb (wlI a.1)+mw a.2.2≤_
  clear h0 h
  unfold assignP at h1
  obtain ⟨b,g1,h1⟩:=bindE h1
  try dsimp only at h1
  obtain ⟨u',g2,h1⟩:=bindE h1
  obtain ⟨v,g3,h1⟩:=bindE h1
  try dsimp only at h1
  have e1:=next_mb g1
  have e2:b.1.1.length=1:=by rw [of_decide_eq_true (needM_ok g2)];rfl
  have e3:=next_mb g3
  split at h1
  ·rename_i hv
   obtain ⟨a1,k1,h1⟩:=bindE h1;obtain ⟨a2,k2,h1⟩:=bindE h1;rw [← pureE h1]
   have e4:=known_mb k1
   have e5:=operands_mb _ k2
   have e6:v.1.1.length=4:=by rw [hv];rfl
   show mb (c.1 :: [61] :: wLoad :: a1.1 :: a2.1.map argT)+mw a2.2≤_
   rw [mb_cons,mb_cons,mb_cons,mb_cons]
   show c.1.length+1+(1+1+(4+1+_))+_≤_
   omega
  split at h1
  ·rename_i hv
   obtain ⟨⟨a1,b1,c1⟩,k1,h1⟩:=bindE h1;obtain ⟨a2,k2,h1⟩:=bindE h1;rw [← pureE h1]
   have e4:=site_mb k1
   have e5:=operands_mb _ k2
   dsimp only at e4 e5
   have e6:v.1.1.length=7:=by rw [hv];rfl
   show mb (c.1 :: [61] :: wRelease :: a1 :: a2.1.map argT)+mw a2.2≤_
   rw [mb_cons,mb_cons,mb_cons,mb_cons]
   show c.1.length+1+(1+1+(7+1+_))+_≤_
   omega
  split at h1
  ·rename_i hv
   obtain ⟨a1,k1,h1⟩:=bindE h1;obtain ⟨a2,k2,h1⟩:=bindE h1;rw [← pureE h1]
   have e4:=name_mb k1
   have e5:=rest_mb _ _ k2
   have e6:v.1.1.length=4:=by rw [hv];rfl
   show mb (c.1 :: [61] :: wCall :: a1.1.1 :: a2.map argT)+mw []≤_
   rw [mb_cons,mb_cons,mb_cons,mb_cons]
   show c.1.length+1+(1+1+(4+1+_))+0≤_
   omega
  split at h1
  ·rename_i hv
   obtain ⟨a2,k2,h1⟩:=bindE h1;rw [← pureE h1]
   have e5:=operands_mb _ k2
   have hb:opB v.1.1=true:=by simp only [Bool.and_eq_true] at hv;exact hv.1
   have e6:opT (opL.idxOf v.1.1+2)=v.1.1:=by
    unfold opT
    have hm:v.1.1 ∈ opL:=by unfold opB at hb;simpa using hb
    rw [show opL.idxOf v.1.1+2 - 2=opL.idxOf v.1.1 by omega,List.getD_eq_getElem?_getD,List.getElem?_eq_getElem (List.idxOf_lt_length_of_mem hm)]
    simp
   show mb (c.1 :: [61] :: opT (opL.idxOf v.1.1+2) :: a2.1.map argT)+mw a2.2≤_
   rw [mb_cons,mb_cons,mb_cons,e6]
   show c.1.length+1+(1+1+_)+_≤_
   omega
  ·obtain ⟨a2,k2,h1⟩:=bindE h1;rw [← pureE h1]
   have e5:=operands_mb _ k2
   show mb (c.1 :: [61] :: a2.1.map argT)+mw a2.2≤_
   rw [mb_cons,mb_cons]
   show c.1.length+1+(1+1+_)+_≤_
   omega
end
def cm (l:List In):Nat:=(l.map fun x=>mb (wlI x)).sum
def fm (f:Fu):Nat:=mb (kFunc :: f.nm :: f.params)+cm f.code
def tv (p:Pg):Nat:=9+(6+(Lib.itoa p.width).length+1)+(p.chans.map fun c=>mb [kChan,c]).sum+(p.arrays.map fun a=>mb [kArray,a.nm,Lib.itoa a.size]).sum+(p.funcs.map fm).sum+cm p.main
theorem body_tw (l:List In):((bodyW l).map mb).sum=cm l+4:=by
 unfold bodyW cm
 rw [List.map_append,List.map_map,List.sum_append]
 rfl
theorem funcs_tw:∀ l:List Fu,((l.flatMap funcW).map mb).sum=(l.map fm).sum+4*l.length
 | []=>rfl
 | f :: r=>by
  rw [List.flatMap_cons,List.map_append,List.sum_append,funcs_tw r,List.map_cons,List.sum_cons,List.length_cons]
  unfold funcW
  rw [List.map_cons,List.sum_cons,body_tw]
  unfold fm
  omega
theorem tw_tv (p:Pg):((linesW p).map mb).sum=tv p+4*p.funcs.length:=by
 unfold linesW
 rw [List.map_append,List.map_append,List.map_append,List.sum_append,List.sum_append,List.sum_append,funcs_tw,List.map_cons,List.map_cons,List.sum_cons,List.sum_cons,body_tw,List.map_map,List.map_map]
 unfold tv
 rw [mb_cons,mb_cons,mb_cons,mb_nil]
 show 5+1+_+_+_+_+(4+1+_+_)=_
 simp only [Function.comp_def]
 omega
theorem declare_tv {S S':PS} {c:Wd} {r:List Wd} (hm:declareP S c r = .ok S'):tv S'.p≤tv S.p+mw (c :: r):=by
 rw [mw_cons]
 unfold declareP at hm
 split at hm
 ·obtain ⟨a,h1,hm⟩:=bindE hm;obtain ⟨b,h2,hm⟩:=bindE hm;rw [← pureE hm]
  have:=number_mb h1
  unfold tv
  dsimp only
  rw [Lib.itoa_nonneg]
  omega
 split at hm
 ·rename_i hc
  obtain ⟨u,h0,hm⟩:=bindE hm;obtain ⟨a,h1,hm⟩:=bindE hm;obtain ⟨b,h2,hm⟩:=bindE hm;rw [← pureE hm,hc.1]
  have:=fresh_mb h1
  unfold tv
  dsimp only
  rw [List.map_append,List.sum_append,List.map_cons,List.map_nil,List.sum_cons,List.sum_nil,mb_cons,mb_cons,mb_nil]
  show _≤_+(4+1+_)
  show _+(_+(4+1+_+0))+_+_+_≤_
  omega
 split at hm
 ·rename_i hc
  obtain ⟨u,h0,hm⟩:=bindE hm;obtain ⟨a,h1,hm⟩:=bindE hm;obtain ⟨a2,h12,hm⟩:=bindE hm;obtain ⟨b,h2,hm⟩:=bindE hm;rw [← pureE hm,hc.1]
  have:=fresh_mb h1
  have e2:=number_mb h12
  unfold tv
  dsimp only
  rw [List.map_append,List.sum_append,List.map_cons,List.map_nil,List.sum_cons,List.sum_nil,mb_cons,mb_cons,mb_cons,mb_nil,Lib.itoa_nonneg]
  dsimp only
  show _≤_+(5+1+_)
  show _+(_+(5+1+_+0))+_+_≤_
  omega
 split at hm
 ·rename_i hc
  obtain ⟨u,h0,hm⟩:=bindE hm;obtain ⟨a,h1,hm⟩:=bindE hm;obtain ⟨b,h2,hm⟩:=bindE hm;rw [← pureE hm,hc.1]
  have:=fresh_mb h1
  have e2:=params_mb _ _ h2
  rw [mb_nil] at e2
  unfold tv
  dsimp only
  rw [List.map_append,List.sum_append,List.map_cons,List.map_nil,List.sum_cons,List.sum_nil]
  unfold fm
  dsimp only
  rw [mb_cons,mb_cons]
  show _≤_+(4+1+_)
  show _+(_+(4+1+_+0+0))+_≤_
  omega
 split at hm
 ·obtain ⟨b,h2,hm⟩:=bindE hm;rw [← pureE hm]
  exact Nat.le_add_right _ _
 ·cases hm
theorem line_tv {S S':PS} {l:List Wd} (h:SIv S) (hm:lineP S l = .ok S'):tv S'.p≤tv S.p+mw l:=by
 cases l with
 | nil=>cases hm
 | cons w r =>
  unfold lineP at hm
  dsimp only at hm
  split at hm
  ·exact declare_tv hm
  split at hm
  ·cases hm
  unfold instructP at hm
  split at hm
  ·obtain ⟨u,h0,hm⟩:=bindE hm;rw [← pureE hm];exact Nat.le_add_right _ _
  ·obtain ⟨u,h0,hm⟩:=bindE hm;obtain ⟨a,h1,hm⟩:=bindE hm;obtain ⟨b,h2,hm⟩:=bindE hm;rw [← pureE hm]
   have e:=instr_mb h1
   show tv (putCode S _)≤_
   have hcm:∀ (l:List In) (x:In) (q:Int × Int),cm (l++[{ x with pos:=q }])=cm l+mb (wlI x):=fun l x q=>by unfold cm;rw [List.map_append,List.sum_append];rfl
   by_cases hn:S.inn=1
   ·obtain ⟨gs,f,hf⟩:∃ gs f,S.p.funcs=gs++[f]:=⟨_,_,(List.dropLast_concat_getLast (h.ne hn)).symm⟩
    obtain ⟨e1,e2⟩:=putCode_1 (l:=codeP S++[{ a.1 with pos:=wpos w }]) hn hf
    rw [e1]
    unfold tv
    dsimp only
    rw [hf]
    simp only [List.map_append,List.map_cons,List.map_nil,List.sum_append,List.sum_cons,List.sum_nil]
    unfold fm
    dsimp only
    rw [hcm,e2]
    omega
   ·unfold putCode
    rw [if_neg hn]
    unfold tv
    dsimp only
    rw [hcm]
    have:codeP S=S.p.main:=by unfold codeP;rw [if_neg hn]
    rw [this]
    omega
theorem lines_tv:∀ (o:List (List Wd)) {S S':PS},SIv S→linesP S o = .ok S'→tv S'.p≤tv S.p+(o.map mw).sum∧SIv S'
 | [],S,S',h,hm=>by rw [← pureE (show pure S=_ from hm)];exact ⟨Nat.le_refl _,h⟩
 | l :: r,S,S',h,hm=>by
  rw [linesP_cons] at hm
  cases h1:lineP S l with
  | error e=>rw [h1] at hm;cases hm
  | ok S1 =>
   rw [h1] at hm
   have e1:=line_tv h h1
   obtain ⟨e2,e3⟩:=lines_tv r (line_keep h h1) hm
   refine ⟨?_,e3⟩
   rw [List.map_cons,List.sum_cons]
   omega
theorem flush_mb (n:Nat) (cur:Option (Bs × Nat)) (acc:List Wd):mw (flushW n cur acc)=mw acc+(match cur with | none=>0 | some (u,_)=>u.length+1):=by
 cases cur with
 | none=>rfl
 | some q=>obtain ⟨u,c⟩:=q;show mb (tx (acc++[(u,n,c)]))=_;rw [tx,List.map_append,mb_app];rfl
theorem lt_mb (n:Nat):∀ (s:Bs) (i:Nat) (cur:Option (Bs × Nat)) (acc ws:List Wd),lt n s i cur acc = .ok ws→mw ws≤mw acc+(match cur with | none=>0 | some (u,_)=>u.length)+s.length+1
 | [],i,cur,acc,ws,h=>by
  unfold lt at h;injection h with h;subst h
  rw [flush_mb]
  cases cur <;> simp <;> omega
 | c :: r,i,cur,acc,ws,h=>by
  unfold lt at h
  have hf:=flush_mb n cur acc
  split at h
  ·injection h with h;subst h
   rw [hf]
   cases cur <;> simp <;> omega
  split at h
  ·have:=lt_mb n r (i+1) none _ ws h
   rw [hf] at this
   revert this
   cases cur <;> simp only [List.length_cons] <;> intro this <;> omega
  split at h
  ·cases h
  ·have:=lt_mb n r (i+1) _ acc ws h
   revert this
   cases cur with
   | none=>unfold grow;simp only [List.length_cons,List.length_nil];intro this;omega
   | some q=>obtain ⟨t,k⟩:=q;unfold grow;simp only [List.length_cons,List.length_append,List.length_nil];intro this;omega
theorem cutNL_sum:∀ s:Bs,(cutNL s).1.length+(if (cutNL s).2.2=true then 1+(cutNL s).2.1.length else 0)=s.length
 | []=>rfl
 | c :: r=>by
  unfold cutNL
  split
  ·simp;omega
  ·have:=cutNL_sum r
   simp only [List.length_cons] at this ⊢
   omega
theorem addL_mb (out:List (List Wd)) (ws:List Wd):((addL out ws).map mw).sum=(out.map mw).sum+mw ws:=by
 unfold addL
 split
 ·rename_i h;subst h;rfl
 ·rw [List.map_append,List.sum_append];simp
theorem ls_mb:∀ (f:Nat) (s:Bs) (n:Nat) (out o:List (List Wd)),s.length≤f→ls n s out = .ok o→(o.map mw).sum≤(out.map mw).sum+s.length+1:=by
 intro f
 induction f with
 | zero =>
  intro s n out o hf h
  obtain rfl:s=[]:=List.eq_nil_of_length_eq_zero (by omega)
  rw [ls] at h
  simp [cutNL,lt,flushW,addL] at h
  subst h
  omega
 | succ f ih =>
  intro s n out o hf h
  rw [ls] at h
  have hc:=cutNL_sum s
  cases he:lt n (cutNL s).1 0 none [] with
  | error i=>rw [he] at h;cases h
  | ok ws =>
   rw [he] at h
   dsimp only at h
   have h1:=lt_mb n (cutNL s).1 0 none [] ws he
   have h2:mw []=0:=rfl
   dsimp only at h1
   split at h
   ·rename_i hm
    have:=ih _ _ _ _ (by have:=cutNL_len s hm;omega) h
    rw [addL_mb] at this
    rw [if_pos hm] at hc
    omega
   ·rename_i hm
    injection h with h;subst h
    rw [addL_mb]
    rw [if_neg hm] at hc
    omega
theorem text_short {s:Bs} {p:Pg} (h:parseE s = .ok p):(textT (linesT p)).length≤s.length+200:=by
 have hck:=(parse_cd h).2.1
 unfold parseE at h
 split at h
 ·cases h
 split at h
 ·cases h
 ·rename_i o ho
  obtain ⟨S,h1,h⟩:=bindE h;obtain ⟨u,h2,h⟩:=bindE h;obtain ⟨u',h3,h⟩:=bindE h
  have e:=pureE h
  subst e
  obtain ⟨e1,e2⟩:=lines_tv o siv0 h1
  have e3:=ls_mb s.length s 1 [] o (Nat.le_refl _) ho
  have e4:tv ps0P.p=17:=by decide +kernel
  have e5:(([]:List (List Wd)).map mw).sum=0:=rfl
  have e6:=e2.ok.fu
  rw [lines_jn,text_mb _ fun l hl=>(okw_lines S.p hck l hl).1,tw_tv]
  omega
end Go.Proofs.YtbijamcoibonkaaDoor
