/-
 Reading back the words of a well-formed program (no program in sight).
-/
import Derived.Test.YtbijamcoibonkaaDoorCB7
import Derived.Test.YtbijamcoibonkaaDoorCB8
import Derived.Lib.ItoaLen
namespace Go.Proofs.YtbijamcoibonkaaDoor
set_option linter.unusedSimpArgs false
set_option linter.unusedVariables false
open Go.RowKit Go.Shelf
theorem named_spec {s:Bs} (h:namedB s=true):s ≠ []∧s.length≤32∧(∀ c ∈ s,namB c=true)∧digB (s.headD 0)=false∧opB s=false∧kwB s=false:=by
 unfold namedB nameB at h
 simp only [Bool.and_eq_true,Bool.not_eq_true',decide_eq_true_eq,List.all_eq_true] at h
 obtain ⟨⟨⟨⟨⟨h1,h2⟩,h3⟩,h4⟩,h5⟩,h6⟩:=h
 exact ⟨by rintro rfl;simp at h1,h2,h4,h3,h5,h6⟩
theorem kw_ne {s k:Bs} (h:namedB s=true) (hk:kwB k=true):s ≠ k:=by
 rintro rfl
 have:=(named_spec h).2.2.2.2.2
 rw [hk] at this;cases this
theorem namB_bd {c:UInt8} (h:namB c=true):(48≤c.toNat∧c.toNat≤57)∨c.toNat=95∨(97≤c.toNat∧c.toNat≤122)∨(65≤c.toNat∧c.toNat≤90):=by
 simp [namB,digB] at h;omega
theorem named_lbl {s:Bs} (h:namedB s=true):labelP s=none:=by
 unfold labelP
 rw [if_neg]
 rintro ⟨h1,_⟩
 have hm:(58:UInt8) ∈ s:=List.mem_of_getLast? h1
 have:=namB_bd ((named_spec h).2.2.1 58 hm)
 simp at this
theorem lbl_back {s:Bs} (h:namedB s=true):labelP (s++[58])=some s:=by
 unfold labelP
 rw [if_pos ⟨by simp,by simpa using h⟩]
 simp
theorem dec_head (n:Nat):digB ((Lib.decDigits n).headD 0)=true∧Lib.decDigits n ≠ []:=by
 have h1:=decDigits_all n
 have h2:1≤(Lib.decDigits n).length:=by rw [Lib.decDigits_length];exact nDigits_pos n
 cases e:Lib.decDigits n with
 | nil=>rw [e] at h2;simp at h2
 | cons a r=>rw [e] at h1;simp at h1;exact ⟨h1.1,by simp⟩
theorem num_back (n:Nat) (hn:n≤18446744073709551615):numR (Lib.decDigits n)=(n,0):=by
 have:=numR_numS 0 n hn (by have:=Lib.nDigits_le20 n (by omega);omega)
 simpa [numS] using this
def NumA (a:Ag):Prop:=a.num≤18446744073709551615
theorem operand_back (f:Int × Int) (a:Ag) (w:Wd) (r:List Wd) (hw:w.1=argT a) (ha:argB a=true) (hn:NumA a):operandP f (w :: r) = .ok (a,r):=by
 obtain ⟨nm,num⟩:=a
 unfold operandP nextP
 simp only [bind,Except.bind]
 unfold argT at hw
 by_cases e:nm=[]
 ·subst e
  simp only [if_true] at hw
  rw [hw,if_pos (dec_head num).1,num_back num hn]
  rfl
 ·simp only [if_neg e] at hw
  unfold argB at ha
  simp only [e,decide_false,Bool.false_or,Bool.and_eq_true,decide_eq_true_eq] at ha
  obtain ⟨h1,rfl⟩:=ha
  rw [hw,if_neg (by rw [(named_spec h1).2.2.2.1];decide),h1]
  rfl
theorem operands_back (f:Int × Int):∀ (l:List Ag) (a b:List Wd),a.map (·.1)=l.map argT→(∀ x ∈ l,argB x=true)→(∀ x ∈ l,NumA x)→operandsP f l.length (a++b) = .ok (l,b)
 | [],a,b,h,_,_=>by
  obtain rfl:a=[]:=by simpa using h
  rfl
 | x :: l,a,b,h,h1,h2=>by
  rw [List.map_cons] at h
  obtain ⟨w,q,rfl,hw,hq⟩:=List.map_eq_cons_iff.1 h
  show (do let (a,r) ← operandP f (w :: (q++b));let (l',q') ← operandsP f l.length r;pure (a :: l',q'))=_
  rw [operand_back f x w (q++b) hw (h1 x (by simp)) (h2 x (by simp))]
  simp only [bind,Except.bind]
  rw [operands_back f l q b hq (fun y hy=>h1 y (by simp [hy])) fun y hy=>h2 y (by simp [hy])]
  rfl
theorem operands_all (f:Int × Int) (l:List Ag) (r:List Wd) (n:Nat) (hn:l.length=n) (h:r.map (·.1)=l.map argT) (h1:∀ x ∈ l,argB x=true) (h2:∀ x ∈ l,NumA x):operandsP f n r = .ok (l,[]):=by
 have:=operands_back f l r [] h h1 h2
 rw [List.append_nil,hn] at this
 exact this
theorem rest_back (f:Int × Int):∀ (l:List Ag) (a:List Wd) (k:Nat),a.map (·.1)=l.map argT→k+l.length≤32→(∀ x ∈ l,argB x=true)→(∀ x ∈ l,NumA x)→restP f k a = .ok l
 | [],a,k,h,_,_,_=>by
  obtain rfl:a=[]:=by simpa using h
  rfl
 | x :: l,a,k,h,hk,h1,h2=>by
  rw [List.map_cons] at h
  obtain ⟨w,q,rfl,hw,hq⟩:=List.map_eq_cons_iff.1 h
  rw [List.length_cons] at hk
  unfold restP needM
  rw [decide_eq_true (by omega:k<32),if_pos rfl]
  simp only [bind,Except.bind]
  rw [operand_back f x w [] hw (h1 x (by simp)) (h2 x (by simp))]
  simp only
  rw [rest_back f l q (k+1) hq (by omega) (fun y hy=>h1 y (by simp [hy])) fun y hy=>h2 y (by simp [hy])]
  rfl
theorem name_back (f:Int × Int) (w:Wd) (r:List Wd) (h:namedB w.1=true):nameP f (w :: r) = .ok (w,r):=by
 unfold nameP nextP needM
 simp only [bind,Except.bind,h]
 rfl
theorem fresh_back (f:Int × Int) (had:List Bs) (w:Wd) (r:List Wd) (h:namedB w.1=true) (hh:had.contains w.1=false):freshP f had (w :: r) = .ok (w.1,r):=by
 unfold freshP
 rw [name_back f w r h]
 simp only [bind,Except.bind,hh]
 rfl
theorem known_back (f:Int × Int) (had:List Bs) (w:Wd) (r:List Wd) (h:namedB w.1=true) (hh:had.contains w.1=true):knownP f had (w :: r) = .ok (w.1,r):=by
 unfold knownP
 rw [name_back f w r h]
 simp only [bind,Except.bind,hh]
 rfl
theorem params_back (f:Int × Int) (pos:Int × Int):∀ (l:List Bs) (a:List Wd) (had:List Bs),a.map (·.1)=l→had.length+l.length≤32→declM pos had l=none→paramsP f had a = .ok (had++l)
 | [],a,had,h,_,_=>by
  obtain rfl:a=[]:=by simpa using h
  simp [paramsP];rfl
 | x :: l,a,had,h,hk,hd=>by
  obtain ⟨w,q,rfl,hw,hq⟩:=List.map_eq_cons_iff.1 h
  rw [List.length_cons] at hk
  unfold declM at hd
  split at hd
  ·cases hd
  ·rename_i hn
   split at hd
   ·cases hd
   ·rename_i hc
    unfold paramsP needM
    rw [decide_eq_true (by omega:had.length<32),if_pos rfl]
    simp only [bind,Except.bind]
    rw [fresh_back f had w [] (by rw [hw];simpa using hn) (by rw [hw];simpa using hc)]
    simp only
    rw [hw,params_back f pos l q (had++[x]) hq (by simp;omega) hd]
    simp
theorem number_back (f:Int × Int) (most:Nat) (w:Wd) (r:List Wd) (z:Int) (hw:w.1=Lib.itoa z) (h1:1≤z) (h2:z≤most) (hm:most≤64):numberP f most (w :: r) = .ok (z.toNat,r):=by
 have he:Lib.itoa z=Lib.decDigits z.toNat:=by unfold Lib.itoa;rw [if_neg (by omega)]
 unfold numberP nextP needM
 simp only [bind,Except.bind]
 rw [hw,he,num_back _ (by omega)]
 have e1:decide (1≤z.toNat)=true:=decide_eq_true (by omega)
 have e2:decide (z.toNat≤most)=true:=decide_eq_true (by omega)
 simp only [e1,e2,Bool.and_self,if_true,decide_true]
 rfl
def wlI (x:In):List Bs:=if x.kind=10 then [x.nm++[58]] else wordsM x
theorem op_idx:∀ o,2≤o→o≤20→opB (opT o)=true∧opL.idxOf (opT o)+2=o:=by
 intro o h1 h2
 have:∀ o,o<21→2≤o→opB (opT o)=true∧opL.idxOf (opT o)+2=o:=by decide
 exact this o (by omega) h1
theorem op_kw:∀ o,2≤o→o≤20→opT o ≠ kLoad∧opT o ≠ kRelease∧opT o ≠ kCall:=by
 intro o h1 h2
 have:∀ o,o<21→2≤o→opT o ≠ kLoad∧opT o ≠ kRelease∧opT o ≠ kCall:=by decide
 exact this o (by omega) h1
theorem arg_ne (a:Ag) (ha:argB a=true):argT a ≠ kLoad∧argT a ≠ kRelease∧argT a ≠ kCall∧opB (argT a)=false:=by
 unfold argT
 by_cases e:a.nm=[]
 ·rw [if_pos e]
  have hd:=(dec_head a.num).1
  refine ⟨?_,?_,?_,?_⟩
  ·intro h;rw [h] at hd;exact absurd hd (by decide)
  ·intro h;rw [h] at hd;exact absurd hd (by decide)
  ·intro h;rw [h] at hd;exact absurd hd (by decide)
  ·rw [← Bool.not_eq_true]
   intro h
   unfold opB at h
   rw [List.contains_iff_mem] at h
   have:∀ s ∈ opL,digB (s.headD 0)=false:=by decide
   rw [this _ h] at hd;cases hd
 ·rw [if_neg e]
  unfold argB at ha
  simp only [e,decide_false,Bool.false_or,Bool.and_eq_true,decide_eq_true_eq] at ha
  exact ⟨kw_ne ha.1 (by decide),kw_ne ha.1 (by decide),kw_ne ha.1 (by decide),(named_spec ha.1).2.2.2.2.1⟩
def NumI (x:In):Prop:=∀ a ∈ x.args,NumA a
theorem lbl_ne (s:Bs):∀ k:Bs,k.getLast? ≠ some 58→s++[58] ≠ k:=by
 rintro k h rfl
 exact h (by simp)
set_option maxHeartbeats 1600000 in
theorem instr_back (st:PS) (x:In) (main:Bool) (l' s':List Bs) (w:Wd) (r:List Wd) (hin:st.inn=if main then 2 else 1) (hst:stepM st.p.chans (anamesP st.p) main st.labels st.sites x = .ok (l',s')) (hnum:NumI x)
  (hw:w.1 :: r.map (·.1)=wlI x):w.1 ≠ kEnd∧instrP st (wpos w) w r = .ok ({ x with pos:=(0,0) },l',s',[]):=by
 unfold stepM at hst
 by_cases hf:(formB x && !(main && decide (x.kind=12)))=false
 ·rw [if_pos hf] at hst;cases hst
 rw [if_neg hf] at hst
 have hf:formB x=true∧(main=false∨¬ x.kind=12):=by cases main <;> simpa using hf
 obtain ⟨hform,hmain⟩:=hf
 unfold formB at hform
 simp only [Bool.and_eq_true,decide_eq_true_eq,Bool.or_eq_true,List.all_eq_true] at hform
 obtain ⟨⟨⟨⟨⟨⟨hk,hop⟩,hd⟩,hn⟩,hwt⟩,hl⟩,hag⟩:=hform
 obtain ⟨kind,op,dst,nm,args,pos⟩:=x
 simp only at *
 have hnum:∀ a ∈ args,NumA a:=hnum
 match kind,hk with
 | 0,_ =>
  simp only [fieldsL,List.getD_cons_zero,fieldB,opOkB,wantM] at hop hd hn hwt
  simp at hop hd hn hwt
  subst hop hn
  simp at hst
  obtain ⟨rfl,rfl⟩:=hst
  simp only [wlI,wordsM] at hw
  simp at hw
  obtain ⟨h0,hr⟩:=hw
  obtain ⟨w1,q,rfl,h1,hq⟩:=List.map_eq_cons_iff.1 hr
  obtain ⟨a,rfl⟩:∃ a,args=[a]:=by
   match args,hwt with
   | [a],_=>exact ⟨a,rfl⟩
  have ha:=hag a (by simp)
  rw [List.map_cons,List.map_nil] at hq
  obtain ⟨w2,q2,rfl,h2,hq2⟩:=List.map_eq_cons_iff.1 hq
  obtain rfl:q2=[]:=by simpa using hq2
  have hd':namedB w.1=true:=by rw [h0];exact hd
  obtain ⟨n1,n2,n3,n4⟩:=arg_ne a ha
  refine ⟨kw_ne hd' (by decide),?_⟩
  unfold instrP
  rw [if_neg (kw_ne hd' (by decide)),if_neg (kw_ne hd' (by decide)),if_neg (kw_ne hd' (by decide)),if_neg (kw_ne hd' (by decide)),if_neg (kw_ne hd' (by decide)),if_neg (kw_ne hd' (by decide)),if_neg (kw_ne hd' (by decide)),named_lbl hd']
  simp only [needM,hd',if_true,bind,Except.bind,assignP,nextP,h1,h2,decide_true,if_neg n1,if_neg n2,if_neg n3,n4,Bool.false_and,Bool.false_eq_true,if_false]
  rw [operands_all (wpos w) [a] [w2] 1 rfl (by simp [h2]) hag hnum]
  simp only [h0,in0]
  rfl
 | 1,_ =>
  simp only [fieldsL,List.getD_cons_zero,List.getD_cons_succ,fieldB,opOkB,wantM] at hop hd hn hwt
  simp at hop hd hn hwt
  subst hn
  simp at hst
  obtain ⟨rfl,rfl⟩:=hst
  simp only [wlI,wordsM] at hw
  simp at hw
  obtain ⟨h0,hr⟩:=hw
  obtain ⟨w1,q,rfl,h1,hq⟩:=List.map_eq_cons_iff.1 hr
  obtain ⟨w2,q2,rfl,h2,hq2⟩:=List.map_eq_cons_iff.1 hq
  have hd':namedB w.1=true:=by rw [h0];exact hd
  obtain ⟨o1,o2⟩:=op_idx op hop.1 hop.2
  obtain ⟨o3,o4,o5⟩:=op_kw op hop.1 hop.2
  have hwt':args.length=arityM op:=by omega
  refine ⟨kw_ne hd' (by decide),?_⟩
  unfold instrP
  rw [if_neg (kw_ne hd' (by decide)),if_neg (kw_ne hd' (by decide)),if_neg (kw_ne hd' (by decide)),if_neg (kw_ne hd' (by decide)),if_neg (kw_ne hd' (by decide)),if_neg (kw_ne hd' (by decide)),if_neg (kw_ne hd' (by decide)),named_lbl hd']
  simp only [needM,hd',if_true,bind,Except.bind,assignP,nextP,h1,h2,decide_true,if_neg o3,if_neg o4,if_neg o5,o1,o2,Bool.true_and,decide_eq_true (show op ≠ 21 by omega)]
  rw [operands_all (wpos w) args q2 (arityM op) hwt' hq2 hag hnum]
  simp only [h0,in0]
  rfl
 | 2,_ =>
  simp only [fieldsL,List.getD_cons_zero,List.getD_cons_succ,fieldB,opOkB,wantM] at hop hd hn hwt
  simp at hop hd hn hwt
  subst hop
  rw [if_neg (by simp),if_pos (by simp)] at hst
  by_cases hc:(anamesP st.p).contains nm=true
  case neg=>rw [if_neg hc] at hst;cases hst
  rw [if_pos hc] at hst
  cases hst
  simp only [wlI,wordsM] at hw
  simp at hw
  obtain ⟨h0,hr⟩:=hw
  obtain ⟨w1,q,rfl,h1,hq⟩:=List.map_eq_cons_iff.1 hr
  obtain ⟨w2,q2,rfl,h2,hq2⟩:=List.map_eq_cons_iff.1 hq
  obtain ⟨w3,q3,rfl,h3,hq3⟩:=List.map_eq_cons_iff.1 hq2
  have hd':namedB w.1=true:=by rw [h0];exact hd
  refine ⟨kw_ne hd' (by decide),?_⟩
  unfold instrP
  rw [if_neg (kw_ne hd' (by decide)),if_neg (kw_ne hd' (by decide)),if_neg (kw_ne hd' (by decide)),if_neg (kw_ne hd' (by decide)),if_neg (kw_ne hd' (by decide)),if_neg (kw_ne hd' (by decide)),if_neg (kw_ne hd' (by decide)),named_lbl hd']
  have e2:w2.1=kLoad:=h2
  simp only [needM,hd',if_true,bind,Except.bind,assignP,nextP,h1,e2,decide_true]
  rw [known_back (wpos w) (anamesP st.p) w3 q3 (by rw [h3];exact hn) (by rw [h3];exact hc)]
  simp only
  rw [operands_all (wpos w) args q3 1 (by omega) hq3 hag hnum]
  simp only [h0,h3,in0]
  rfl
 | 3,_ =>
  simp only [fieldsL,List.getD_cons_zero,List.getD_cons_succ,fieldB,opOkB,wantM] at hop hd hn hwt
  simp at hop hd hn hwt
  subst hop hd
  rw [if_neg (by simp),if_pos (by simp)] at hst
  by_cases hc:(anamesP st.p).contains nm=true
  case neg=>rw [if_neg hc] at hst;cases hst
  rw [if_pos hc] at hst
  cases hst
  simp only [wlI,wordsM] at hw
  simp at hw
  obtain ⟨h0,hr⟩:=hw
  obtain ⟨w1,q,rfl,h1,hq⟩:=List.map_eq_cons_iff.1 hr
  have e0:w.1=kStore:=h0
  refine ⟨by rw [e0];decide,?_⟩
  unfold instrP
  rw [if_pos e0]
  simp only [bind,Except.bind]
  rw [known_back (wpos w) (anamesP st.p) w1 q (by rw [h1];exact hn) (by rw [h1];exact hc)]
  simp only
  rw [operands_all (wpos w) args q 2 (by omega) hq hag hnum]
  simp only [h1,in0]
  rfl
 | 4,_ =>
  simp only [fieldsL,List.getD_cons_zero,List.getD_cons_succ,fieldB,opOkB,wantM] at hop hd hn hwt
  simp at hop hd hn hwt
  subst hop
  simp at hst
  obtain ⟨rfl,rfl⟩:=hst
  simp only [wlI,wordsM] at hw
  simp at hw
  obtain ⟨h0,hr⟩:=hw
  obtain ⟨w1,q,rfl,h1,hq⟩:=List.map_eq_cons_iff.1 hr
  obtain ⟨w2,q2,rfl,h2,hq2⟩:=List.map_eq_cons_iff.1 hq
  obtain ⟨w3,q3,rfl,h3,hq3⟩:=List.map_eq_cons_iff.1 hq2
  have hd':namedB w.1=true:=by rw [h0];exact hd
  refine ⟨kw_ne hd' (by decide),?_⟩
  unfold instrP
  rw [if_neg (kw_ne hd' (by decide)),if_neg (kw_ne hd' (by decide)),if_neg (kw_ne hd' (by decide)),if_neg (kw_ne hd' (by decide)),if_neg (kw_ne hd' (by decide)),if_neg (kw_ne hd' (by decide)),if_neg (kw_ne hd' (by decide)),named_lbl hd']
  have e2:w2.1=kCall:=h2
  have n1:¬ kCall=kLoad:=by decide
  have n2:¬ kCall=kRelease:=by decide
  simp only [needM,hd',if_true,bind,Except.bind,assignP,nextP,h1,e2,decide_true,if_neg n1,if_neg n2]
  rw [name_back (wpos w) w3 q3 (by rw [h3];exact hn)]
  simp only
  rw [rest_back (wpos w) args q3 0 hq3 (by omega) hag hnum]
  simp only [h0,h3,in0]
  rfl
 | 5,_ =>
  simp only [fieldsL,List.getD_cons_zero,List.getD_cons_succ,fieldB,opOkB,wantM] at hop hd hn hwt
  simp at hop hd hn hwt
  subst hop hwt
  rw [if_pos (by simp)] at hst
  by_cases hc:st.p.chans.contains nm=true
  case neg=>rw [if_neg hc] at hst;cases hst
  rw [if_pos hc] at hst
  cases hst
  simp only [wlI,wordsM] at hw
  simp at hw
  obtain ⟨h0,hr⟩:=hw
  obtain ⟨w1,q,rfl,h1,hq⟩:=List.map_eq_cons_iff.1 hr
  obtain ⟨w2,q2,rfl,h2,hq2⟩:=List.map_eq_cons_iff.1 hq
  obtain rfl:q2=[]:=by simpa using hq2
  have e0:w.1=wkIn:=h0
  refine ⟨by rw [e0];decide,?_⟩
  unfold instrP
  rw [if_neg (by rw [e0];decide),if_pos e0]
  simp only [bind,Except.bind]
  rw [name_back (wpos w) w1 [w2] (by rw [h1];exact hd)]
  simp only
  rw [known_back (wpos w) st.p.chans w2 [] (by rw [h2];exact hn) (by rw [h2];exact hc)]
  simp only [h1,h2,in0]
  rfl
 | 6,_ =>
  simp only [fieldsL,List.getD_cons_zero,List.getD_cons_succ,fieldB,opOkB,wantM] at hop hd hn hwt
  simp at hop hd hn hwt
  subst hop hd
  rw [if_pos (by simp)] at hst
  by_cases hc:st.p.chans.contains nm=true
  case neg=>rw [if_neg hc] at hst;cases hst
  rw [if_pos hc] at hst
  cases hst
  simp only [wlI,wordsM] at hw
  simp at hw
  obtain ⟨h0,hr⟩:=hw
  obtain ⟨w1,q,rfl,h1,hq⟩:=List.map_eq_cons_iff.1 hr
  have e0:w.1=kOut:=h0
  refine ⟨by rw [e0];decide,?_⟩
  unfold instrP
  rw [if_neg (by rw [e0];decide),if_neg (by rw [e0];decide),if_pos e0]
  simp only [bind,Except.bind]
  rw [known_back (wpos w) st.p.chans w1 q (by rw [h1];exact hn) (by rw [h1];exact hc)]
  simp only
  rw [operands_all (wpos w) args q 1 (by omega) hq hag hnum]
  simp only [h1,in0]
  rfl
 | 7,_ =>
  simp only [fieldsL,List.getD_cons_zero,List.getD_cons_succ,fieldB,opOkB,wantM] at hop hd hn hwt
  simp at hop hd hn hwt
  subst hop
  rw [if_neg (by simp),if_neg (by simp),if_neg (by simp),if_pos rfl] at hst
  simp only [wlI,wordsM] at hw
  simp at hw
  obtain ⟨h0,hr⟩:=hw
  obtain ⟨w1,q,rfl,h1,hq⟩:=List.map_eq_cons_iff.1 hr
  obtain ⟨w2,q2,rfl,h2,hq2⟩:=List.map_eq_cons_iff.1 hq
  obtain ⟨w3,q3,rfl,h3,hq3⟩:=List.map_eq_cons_iff.1 hq2
  have hd':namedB w.1=true:=by rw [h0];exact hd
  refine ⟨kw_ne hd' (by decide),?_⟩
  unfold instrP
  rw [if_neg (kw_ne hd' (by decide)),if_neg (kw_ne hd' (by decide)),if_neg (kw_ne hd' (by decide)),if_neg (kw_ne hd' (by decide)),if_neg (kw_ne hd' (by decide)),if_neg (kw_ne hd' (by decide)),if_neg (kw_ne hd' (by decide)),named_lbl hd']
  have e2:w2.1=kRelease:=h2
  have n1:¬ kRelease=kLoad:=by decide
  simp only [needM,hd',if_true,bind,Except.bind,assignP,nextP,h1,e2,decide_true,if_neg n1]
  have hsite:siteP (wpos w) st.sites (w3 :: q3) = .ok (nm,s',q3)∧l'=st.labels:=by
   unfold siteP nextP needM
   simp only [bind,Except.bind,h3,hn,if_true]
   by_cases hc:st.sites.contains nm=true
   ·rw [if_pos hc] at hst
    cases hst
    simp only [hc,Bool.true_or,if_true]
    exact ⟨rfl,trivial⟩
   ·rw [if_neg hc] at hst
    by_cases h32:st.sites.length<32
    ·rw [if_pos h32] at hst
     cases hst
     have hc':st.sites.contains nm=false:=by simpa using hc
     simp only [hc',Bool.false_or,decide_eq_true h32,if_true,Bool.false_eq_true,if_false]
     exact ⟨rfl,trivial⟩
    ·rw [if_neg h32] at hst;cases hst
  obtain ⟨hsite,rfl⟩:=hsite
  rw [hsite]
  simp only
  rw [operands_all (wpos w) args q3 1 (by omega) hq3 hag hnum]
  simp only [h0,in0]
  rfl
 | 8,_ =>
  simp only [fieldsL,List.getD_cons_zero,List.getD_cons_succ,fieldB,opOkB,wantM] at hop hd hn hwt
  simp at hop hd hn hwt
  subst hop hd hwt
  simp at hst
  obtain ⟨rfl,rfl⟩:=hst
  simp only [wlI,wordsM] at hw
  simp at hw
  obtain ⟨h0,c1,c2,rfl⟩:=hw
  have e0:w.1=kJump:=h0
  refine ⟨by rw [e0];decide,?_⟩
  unfold instrP
  rw [if_neg (by rw [e0];decide),if_neg (by rw [e0];decide),if_neg (by rw [e0];decide),if_pos e0]
  simp only [bind,Except.bind]
  rw [name_back (wpos w) (nm,c1,c2) [] hn]
  simp only [in0]
  rfl
 | 9,_ =>
  simp only [fieldsL,List.getD_cons_zero,List.getD_cons_succ,fieldB,opOkB,wantM] at hop hd hn hwt
  simp at hop hd hn hwt
  subst hop hd
  simp at hst
  obtain ⟨rfl,rfl⟩:=hst
  simp only [wlI,wordsM] at hw
  simp at hw
  obtain ⟨h0,hr⟩:=hw
  obtain ⟨a,rfl⟩:∃ a,args=[a]:=by
   match args,hwt with
   | [a],_=>exact ⟨a,rfl⟩
  rw [List.map_cons,List.map_nil,List.cons_append,List.nil_append] at hr
  obtain ⟨w1,q,rfl,h1,hq⟩:=List.map_eq_cons_iff.1 hr
  obtain ⟨w2,q2,rfl,h2,hq2⟩:=List.map_eq_cons_iff.1 hq
  obtain rfl:q2=[]:=by simpa using hq2
  have e0:w.1=kIf:=h0
  refine ⟨by rw [e0];decide,?_⟩
  unfold instrP
  rw [if_neg (by rw [e0];decide),if_neg (by rw [e0];decide),if_neg (by rw [e0];decide),if_neg (by rw [e0];decide),if_pos e0]
  simp only [bind,Except.bind]
  rw [show operandsP (wpos w) 1 [w1,w2] = .ok ([a],[w2]) from operands_back (wpos w) [a] [w1] [w2] (by simp [h1]) hag hnum]
  simp only
  rw [name_back (wpos w) w2 [] (by rw [h2];exact hn)]
  simp only [h2,in0]
  rfl
 | 10,_ =>
  simp only [fieldsL,List.getD_cons_zero,List.getD_cons_succ,fieldB,opOkB,wantM] at hop hd hn hwt
  simp at hop hd hn hwt
  subst hop hd hwt
  rw [if_neg (by simp),if_neg (by simp),if_pos rfl] at hst
  by_cases hc:st.labels.contains nm=true
  ·rw [if_pos hc] at hst;cases hst
  rw [if_neg hc] at hst
  cases hst
  have hc':st.labels.contains nm=false:=by simpa using hc
  simp only [wlI,wordsM] at hw
  simp at hw
  obtain ⟨h0,hr⟩:=hw
  subst hr
  refine ⟨by rw [h0];exact lbl_ne nm _ (by decide),?_⟩
  unfold instrP
  rw [if_neg (by rw [h0];exact lbl_ne nm _ (by decide)),if_neg (by rw [h0];exact lbl_ne nm _ (by decide)),if_neg (by rw [h0];exact lbl_ne nm _ (by decide)),if_neg (by rw [h0];exact lbl_ne nm _ (by decide)),if_neg (by rw [h0];exact lbl_ne nm _ (by decide)),if_neg (by rw [h0];exact lbl_ne nm _ (by decide)),if_neg (by rw [h0];exact lbl_ne nm _ (by decide)),h0,lbl_back hn]
  simp only [needM,hc',Bool.not_false,if_true,bind,Except.bind,in0]
  rfl
 | 11,_ =>
  simp only [fieldsL,List.getD_cons_zero,List.getD_cons_succ,fieldB,opOkB,wantM] at hop hd hn hwt
  simp at hop hd hn hwt
  subst hop hd hn hwt
  simp at hst
  obtain ⟨rfl,rfl⟩:=hst
  simp only [wlI,wordsM] at hw
  simp at hw
  obtain ⟨h0,hr⟩:=hw
  subst hr
  have e0:w.1=kHalt:=h0
  refine ⟨by rw [e0];decide,?_⟩
  unfold instrP
  rw [if_neg (by rw [e0];decide),if_neg (by rw [e0];decide),if_neg (by rw [e0];decide),if_neg (by rw [e0];decide),if_neg (by rw [e0];decide),if_pos e0]
  rfl
 | 12,_ =>
  simp only [fieldsL,List.getD_cons_zero,List.getD_cons_succ,fieldB,opOkB,wantM] at hop hd hn hwt
  simp at hop hd hn hwt
  subst hop hd hn
  simp at hst
  obtain ⟨rfl,rfl⟩:=hst
  have hm:main=false:=by simpa using hmain
  subst hm
  have hin1:st.inn=1:=by simpa using hin
  simp only [wlI,wordsM] at hw
  simp at hw
  obtain ⟨h0,hr⟩:=hw
  have e0:w.1=kRet:=h0
  refine ⟨by rw [e0];decide,?_⟩
  unfold instrP
  rw [if_neg (by rw [e0];decide),if_neg (by rw [e0];decide),if_neg (by rw [e0];decide),if_neg (by rw [e0];decide),if_neg (by rw [e0];decide),if_neg (by rw [e0];decide),if_pos e0]
  simp only [needM,hin1,decide_true,if_true,bind,Except.bind]
  rw [operands_all (wpos w) args r 1 (by omega) hr hag hnum]
  simp only [in0]
  rfl
 | k+13,h=>omega
end Go.Proofs.YtbijamcoibonkaaDoor
