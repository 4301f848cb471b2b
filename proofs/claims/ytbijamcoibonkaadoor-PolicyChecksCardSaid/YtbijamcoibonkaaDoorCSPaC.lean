/-
 Reading back the lines of a well-formed program (no program in sight).
-/
import Derived.Test.YtbijamcoibonkaaDoorCSPaB
import Derived.Test.YtbijamcoibonkaaDoorCB10
namespace Go.Proofs.YtbijamcoibonkaaDoor
set_option linter.unusedSimpArgs false
set_option linter.unusedVariables false
open Go.RowKit Go.Shelf
def bareI (x:In):In:={ x with pos:=(0,0) }
def bareF (f:Fu):Fu:={ f with code:=f.code.map bareI,pos:=(0,0) }
def bareP (p:Pg):Pg:={ p with funcs:=p.funcs.map bareF,main:=p.main.map bareI }
def bodyW (l:List In):List (List Bs):=l.map wlI++[[kEnd]]
def funcW (f:Fu):List (List Bs):=(kFunc :: f.nm :: f.params) :: bodyW f.code
def linesW (p:Pg):List (List Bs) :=
 [kWidth,Lib.itoa p.width] :: (p.chans.map fun c=>[kChan,c])++(p.arrays.map fun a=>[kArray,a.nm,Lib.itoa a.size])++p.funcs.flatMap funcW++[kMain] :: bodyW p.main
structure NumP (p:Pg):Prop where
 funcs:∀ f ∈ p.funcs,∀ x ∈ f.code,NumI x
 main:∀ x ∈ p.main,NumI x
theorem txts_cons {o:List (List Wd)} {l:List Bs} {r:List (List Bs)} (h:txts o=l :: r):∃ a b,o=a :: b∧a.map (·.1)=l∧txts b=r:=by
 obtain ⟨a,b,rfl,h1,h2⟩:=List.map_eq_cons_iff.1 h
 exact ⟨a,b,rfl,h1,h2⟩
theorem txts_append {o:List (List Wd)} {a b:List (List Bs)} (h:txts o=a++b):∃ o1 o2,o=o1++o2∧txts o1=a∧txts o2=b:=by
 obtain ⟨o1,o2,rfl,h1,h2⟩:=List.map_eq_append_iff.1 h
 exact ⟨o1,o2,rfl,h1,h2⟩
theorem lineP_cons (st:PS) (w:Wd) (r:List Wd):lineP st (w :: r)=if st.inn=0 then declareP st w r else if st.inn=3 then .error (wpos w,4) else instructP st w r:=rfl
theorem line0 (st:PS) (w:Wd) (r:List Wd) (h:st.inn=0):lineP st (w :: r)=declareP st w r:=by rw [lineP_cons,if_pos h]
structure IsS (S:List In→List Bs→List Bs→PS) (ch ar:List Bs) (main:Bool):Prop where
 code:∀ d l s,codeP (S d l s)=d
 put:∀ d l s c l' s',({ S d l s with p:=putCode (S d l s) c,labels:=l',sites:=s' }:PS)=S c l' s'
 labels:∀ d l s,(S d l s).labels=l
 sites:∀ d l s,(S d l s).sites=s
 inn:∀ d l s,(S d l s).inn=if main then 2 else 1
 chans:∀ d l s,(S d l s).p.chans=ch
 arrs:∀ d l s,anamesP (S d l s).p=ar
theorem body_back {S:List In→List Bs→List Bs→PS} {ch ar:List Bs} {main:Bool} (hS:IsS S ch ar main):∀ (code d:List In) (l s l' s':List Bs) (o rest:List (List Wd)),bodyM ch ar main code l s = .ok (l',s')→(∀ x ∈ code,NumI x)→d.length+code.length≤1024 →
  txts o=code.map wlI→∃ c',c'.map bareI=code.map bareI∧linesP (S d l s) (o++rest)=linesP (S (d++c') l' s') rest
 | [],d,l,s,l',s',o,rest,h,_,_,ho=>by
  simp only [bodyM,Except.ok.injEq,Prod.mk.injEq] at h
  obtain ⟨rfl,rfl⟩:=h
  obtain rfl:o=[]:=by simpa [txts] using ho
  exact ⟨[],rfl,by simp⟩
 | x :: code,d,l,s,l',s',o,rest,h,hnum,hlen,ho=>by
  obtain ⟨a,b,rfl,ha,hb⟩:=txts_cons ho
  unfold bodyM at h
  cases hst:stepM ch ar main l s x with
  | error f=>rw [hst] at h;cases h
  | ok q =>
   obtain ⟨l1,s1⟩:=q
   rw [hst] at h
   simp only at h
   obtain ⟨w,r,rfl,hw⟩:∃ w r,a=w :: r∧w.1 :: r.map (·.1)=wlI x:=by
    cases a with
    | nil =>
     exfalso
     simp only [List.map_nil] at ha
     have hf:formB x=true:=by
      unfold stepM at hst
      by_cases hf:(formB x && !(main && decide (x.kind=12)))=false
      ·rw [if_pos hf] at hst;cases hst
      ·cases hx:formB x with
       | true=>rfl
       | false=>rw [hx] at hf;simp at hf
     have hk:x.kind<13:=by
      unfold formB at hf;simp at hf;omega
     obtain ⟨kind,op,dst,nm,args,pos⟩:=x
     simp only at hk
     match kind,hk with
     | 0,_=>simp [wlI,wordsM] at ha
     | 1,_=>simp [wlI,wordsM] at ha
     | 2,_=>simp [wlI,wordsM] at ha
     | 3,_=>simp [wlI,wordsM] at ha
     | 4,_=>simp [wlI,wordsM] at ha
     | 5,_=>simp [wlI,wordsM] at ha
     | 6,_=>simp [wlI,wordsM] at ha
     | 7,_=>simp [wlI,wordsM] at ha
     | 8,_=>simp [wlI,wordsM] at ha
     | 9,_=>simp [wlI,wordsM] at ha
     | 10,_=>simp [wlI,wordsM] at ha
     | 11,_=>simp [wlI,wordsM] at ha
     | 12,_=>simp [wlI,wordsM] at ha
     | k+13,h=>omega
    | cons w r=>exact ⟨w,r,rfl,ha⟩
   rw [List.length_cons] at hlen
   have hib:=instr_back (S d l s) x main l1 s1 w r (hS.inn d l s) (by rw [hS.chans,hS.arrs,hS.labels,hS.sites];exact hst) (hnum x (by simp)) hw
   obtain ⟨hne,hib⟩:=hib
   have hin0:¬ (S d l s).inn=0:=by rw [hS.inn];cases main <;> decide
   have hin3:¬ (S d l s).inn=3:=by rw [hS.inn];cases main <;> decide
   have hline:lineP (S d l s) (w :: r) = .ok (S (d++[{ x with pos:=wpos w }]) l1 s1):=by
    rw [lineP_cons]
    rw [if_neg hin0,if_neg hin3]
    unfold instructP needM
    rw [if_neg hne,hS.code,decide_eq_true (by omega:d.length<1024),if_pos rfl,hib]
    simp only [bind,Except.bind,endP,pure,Except.pure]
    rw [hS.put]
   obtain ⟨c',hc',hrun⟩:=body_back hS code (d++[{ x with pos:=wpos w }]) l1 s1 l' s' b rest h (fun y hy=>hnum y (by simp [hy])) (by simp;omega) hb
   refine ⟨{ x with pos:=wpos w } :: c',by rw [List.map_cons,List.map_cons,hc'];rfl,?_⟩
   rw [List.cons_append,linesP,hline]
   simp only [bind,Except.bind]
   rw [hrun]
   simp [List.append_assoc]
def stM (wd:Int) (ch:List Bs) (ar:List Ar) (fs:List Fu) (sp:Nat) (d:List In) (l s:List Bs):PS:=⟨⟨wd,ch,ar,fs,d⟩,l,s,2,sp⟩
def stF (wd:Int) (ch:List Bs) (ar:List Ar) (fs:List Fu) (sp:Nat) (nm:Bs) (ps:List Bs) (pos:Int × Int) (d:List In) (l s:List Bs):PS:=⟨⟨wd,ch,ar,fs++[⟨nm,ps,d,pos⟩],[]⟩,l,s,1,sp⟩
theorem isS_main (wd:Int) (ch:List Bs) (ar:List Ar) (fs:List Fu) (sp:Nat):IsS (stM wd ch ar fs sp) ch (ar.map Ar.nm) true :=
 ⟨fun _ _ _=>rfl,fun _ _ _ _ _ _=>rfl,fun _ _ _=>rfl,fun _ _ _=>rfl,fun _ _ _=>rfl,fun _ _ _=>rfl,fun _ _ _=>rfl⟩
theorem isS_func (wd:Int) (ch:List Bs) (ar:List Ar) (fs:List Fu) (sp:Nat) (nm:Bs) (ps:List Bs) (pos:Int × Int):IsS (stF wd ch ar fs sp nm ps pos) ch (ar.map Ar.nm) false :=
 ⟨fun d l s=>by simp [codeP,stF],fun d l s c l' s'=>by simp [putCode,stF],fun _ _ _=>rfl,fun _ _ _=>rfl,fun _ _ _=>rfl,fun _ _ _=>rfl,fun _ _ _=>rfl⟩
def stD (wd:Int) (ch:List Bs) (ar:List Ar) (fs:List Fu) (sp:Nat) (l s:List Bs):PS:=⟨⟨wd,ch,ar,fs,[]⟩,l,s,0,sp⟩
theorem end_line (st:PS) (a:List Wd) (ha:a.map (·.1)=[kEnd]) (h0:st.inn ≠ 0) (h3:st.inn ≠ 3):lineP st a = .ok { st with inn:=if st.inn=2 then 3 else 0 }:=by
 obtain ⟨w,r,rfl,hw,hr⟩:=List.map_eq_cons_iff.1 ha
 obtain rfl:r=[]:=by simpa using hr
 rw [lineP_cons]
 rw [if_neg h0,if_neg h3]
 unfold instructP
 rw [if_pos hw]
 rfl
theorem funcs_back (wd:Int) (ch:List Bs) (ar:List Ar):∀ (l:List Fu) (fs:List Fu) (sp:Nat) (lb s:List Bs) (ls ls':List (List Bs)) (s':List Bs) (o rest:List (List Wd)),
  funcsM ch (ar.map Ar.nm) (fs.map Fu.nm) ls s l = .ok (ls',s')→(∀ f ∈ l,∀ x ∈ f.code,NumI x)→fs.length+l.length≤32→1≤sp→txts o=l.flatMap funcW →
  ∃ fs' sp' lb',fs'.map bareF=(fs++l).map bareF∧1≤sp'∧linesP (stD wd ch ar fs sp lb s) (o++rest)=linesP (stD wd ch ar fs' sp' lb' s') rest
 | [],fs,sp,lb,s,ls,ls',s',o,rest,h,_,_,hsp,ho=>by
  simp only [funcsM,Except.ok.injEq,Prod.mk.injEq] at h
  obtain ⟨_,rfl⟩:=h
  obtain rfl:o=[]:=by simpa [txts] using ho
  exact ⟨fs,sp,lb,by simp,hsp,by simp⟩
 | f :: l,fs,sp,lb,s,ls,ls',s',o,rest,h,hnum,hlen,hsp,ho=>by
  rw [List.flatMap_cons] at ho
  obtain ⟨o1,o2,rfl,ho1,ho2⟩:=txts_append ho
  obtain ⟨a,b,rfl,ha,hb⟩:=txts_cons ho1
  obtain ⟨c,e,rfl,hc,he⟩:=txts_append hb
  obtain ⟨z,y,rfl,hz,hy⟩:=txts_cons he
  obtain rfl:y=[]:=by simpa [txts] using hy
  obtain ⟨w,r,rfl,hw,hr⟩:=List.map_eq_cons_iff.1 ha
  obtain ⟨w1,q,rfl,hw1,hq⟩:=List.map_eq_cons_iff.1 hr
  rw [List.length_cons] at hlen
  unfold funcsM at h
  by_cases c1:namedB f.nm=false
  ·rw [if_pos c1] at h;cases h
  rw [if_neg c1] at h
  by_cases c2:(fs.map Fu.nm).contains f.nm=true
  ·rw [if_pos c2] at h;cases h
  rw [if_neg c2] at h
  by_cases c3:32<f.params.length
  ·rw [if_pos c3] at h;cases h
  rw [if_neg c3] at h
  cases hd:declM f.pos [] f.params with
  | some x=>rw [hd] at h;cases h
  | none =>
   rw [hd] at h
   simp only at h
   unfold instrsM at h
   by_cases c4:1024<f.code.length
   ·rw [if_pos c4] at h;cases h
   rw [if_neg c4] at h
   cases hbm:bodyM ch (ar.map Ar.nm) false f.code [] s with
   | error x=>rw [hbm] at h;cases h
   | ok q' =>
    obtain ⟨l1,s1⟩:=q'
    rw [hbm] at h
    simp only at h
    have hn1:namedB w1.1=true:=by rw [hw1];simpa using c1
    have hn2:(fs.map Fu.nm).contains w1.1=false:=by rw [hw1];simpa using c2
    have hline:lineP (stD wd ch ar fs sp lb s) (w :: w1 :: q) = .ok (stF wd ch ar fs 3 f.nm f.params (wpos w) [] [] s):=by
     rw [line0 _ _ _ rfl]
     unfold declareP needM
     rw [if_neg (by rw [hw];intro h;exact absurd h.1 (by decide)),if_neg (by rw [hw];intro h;exact absurd h.1 (by decide)),if_neg (by rw [hw];intro h;exact absurd h.1 (by decide)),if_pos ⟨hw,hsp⟩]
     have e1:decide ((stD wd ch ar fs sp lb s).p.funcs.length<32)=true:=decide_eq_true (by show fs.length<32;omega)
     simp only [e1,if_true,bind,Except.bind]
     rw [fresh_back (wpos w) (List.map Fu.nm (stD wd ch ar fs sp lb s).p.funcs) w1 q hn1 hn2]
     simp only
     rw [params_back (wpos w) f.pos f.params q [] hq (by simp;omega) hd,hw1]
     rfl
    obtain ⟨c',hc',hrun⟩:=body_back (isS_func wd ch ar fs 3 f.nm f.params (wpos w)) f.code [] [] s l1 s1 c ([z]++(o2++rest)) hbm (hnum f (by simp)) (by simp;omega) hc
    have hnm:(fs++[(⟨f.nm,f.params,c',wpos w⟩:Fu)]).map Fu.nm=fs.map Fu.nm++[f.nm]:=by simp
    obtain ⟨fs',sp',lb',h1,h2,h3⟩:=funcs_back wd ch ar l (fs++[⟨f.nm,f.params,c',wpos w⟩]) 3 l1 s1 (ls++[l1]) ls' s' o2 rest (by rw [hnm];exact h) (fun g hg=>hnum g (by simp [hg])) (by simp;omega) (by omega) ho2
    refine ⟨fs',sp',lb',?_,h2,?_⟩
    ·rw [h1]
     simp [bareF,hc']
    ·rw [← h3]
     rw [show ((w :: w1 :: q) :: (c++[z])++o2)++rest=(w :: w1 :: q) :: (c++([z]++(o2++rest))) by simp,linesP,hline]
     simp only [bind,Except.bind]
     rw [hrun,List.singleton_append,linesP,end_line _ z hz (by show (1:Nat) ≠ 0;omega) (by show (1:Nat) ≠ 3;omega)]
     rfl
theorem chans_back (wd:Int):∀ (l ch:List Bs) (lb s:List Bs) (o rest:List (List Wd)),declM (0,0) ch l=none→ch.length+l.length≤32→txts o=(l.map fun c=>[kChan,c]) →
  linesP (stD wd ch [] [] 1 lb s) (o++rest)=linesP (stD wd (ch++l) [] [] 1 lb s) rest
 | [],ch,lb,s,o,rest,_,_,ho=>by
  obtain rfl:o=[]:=by simpa [txts] using ho
  simp
 | x :: l,ch,lb,s,o,rest,hd,hlen,ho=>by
  obtain ⟨a,b,rfl,ha,hb⟩:=txts_cons ho
  obtain ⟨w,r,rfl,hw,hr⟩:=List.map_eq_cons_iff.1 ha
  obtain ⟨w1,q,rfl,hw1,hq⟩:=List.map_eq_cons_iff.1 hr
  obtain rfl:q=[]:=by simpa using hq
  rw [List.length_cons] at hlen
  unfold declM at hd
  by_cases c1:namedB x=false
  ·rw [if_pos c1] at hd;cases hd
  rw [if_neg c1] at hd
  by_cases c2:ch.contains x=true
  ·rw [if_pos c2] at hd;cases hd
  rw [if_neg c2] at hd
  have hline:lineP (stD wd ch [] [] 1 lb s) [w,w1] = .ok (stD wd (ch++[x]) [] [] 1 lb s):=by
   rw [line0 _ _ _ rfl]
   unfold declareP needM
   rw [if_neg (by rw [hw];intro h;exact absurd h.1 (by decide)),if_pos ⟨hw,rfl⟩]
   have e1:decide ((stD wd ch [] [] 1 lb s).p.chans.length<32)=true:=decide_eq_true (by show ch.length<32;omega)
   simp only [e1,if_true,bind,Except.bind]
   rw [fresh_back (wpos w) (stD wd ch [] [] 1 lb s).p.chans w1 [] (by rw [hw1];simpa using c1) (by rw [hw1];simpa [stD] using c2),hw1]
   rfl
  rw [List.cons_append,linesP,hline]
  simp only [bind,Except.bind]
  rw [chans_back wd l (ch++[x]) lb s b rest hd (by simp;omega) hb]
  simp
theorem arrs_back (wd:Int) (ch:List Bs):∀ (l ar:List Ar) (sp:Nat) (lb s:List Bs) (o rest:List (List Wd)),arrsM (ar.map Ar.nm) l=none→ar.length+l.length≤32→1≤sp→sp≤2→txts o=(l.map fun a=>[kArray,a.nm,Lib.itoa a.size]) →
  ∃ sp',1≤sp'∧linesP (stD wd ch ar [] sp lb s) (o++rest)=linesP (stD wd ch (ar++l) [] sp' lb s) rest
 | [],ar,sp,lb,s,o,rest,_,_,hsp,_,ho=>by
  obtain rfl:o=[]:=by simpa [txts] using ho
  exact ⟨sp,hsp,by simp⟩
 | x :: l,ar,sp,lb,s,o,rest,hd,hlen,hsp,hsp2,ho=>by
  obtain ⟨a,b,rfl,ha,hb⟩:=txts_cons ho
  obtain ⟨w,r,rfl,hw,hr⟩:=List.map_eq_cons_iff.1 ha
  obtain ⟨w1,q,rfl,hw1,hq⟩:=List.map_eq_cons_iff.1 hr
  obtain ⟨w2,q2,rfl,hw2,hq2⟩:=List.map_eq_cons_iff.1 hq
  obtain rfl:q2=[]:=by simpa using hq2
  rw [List.length_cons] at hlen
  unfold arrsM at hd
  by_cases c1:namedB x.nm=false
  ·rw [if_pos c1] at hd;cases hd
  rw [if_neg c1] at hd
  by_cases c2:(ar.map Ar.nm).contains x.nm=true
  ·rw [if_pos c2] at hd;cases hd
  rw [if_neg c2] at hd
  by_cases c3:x.size<1∨64<x.size
  ·rw [if_pos c3] at hd;cases hd
  rw [if_neg c3] at hd
  have hline:lineP (stD wd ch ar [] sp lb s) [w,w1,w2] = .ok (stD wd ch (ar++[x]) [] 2 lb s):=by
   rw [line0 _ _ _ rfl]
   unfold declareP needM
   rw [if_neg (by rw [hw];intro h;exact absurd h.1 (by decide)),if_neg (by rw [hw];intro h;exact absurd h.1 (by decide)),if_pos ⟨hw,hsp,hsp2⟩]
   have e1:decide ((stD wd ch ar [] sp lb s).p.arrays.length<32)=true:=decide_eq_true (by show ar.length<32;omega)
   simp only [e1,if_true,bind,Except.bind]
   rw [fresh_back (wpos w) _ w1 [w2] (by rw [hw1];simpa using c1) (by rw [hw1];simpa [anamesP,stD] using c2)]
   simp only
   rw [number_back (wpos w) 64 w2 [] x.size hw2 (by omega) (by omega) (Nat.le_refl _),hw1]
   obtain ⟨nm,size⟩:=x
   simp only at c3
   have e2:((size.toNat:Nat):Int)=size:=by omega
   simp only [endP,pure,Except.pure,stD,e2]
  have hm:(ar++[x]).map Ar.nm=ar.map Ar.nm++[x.nm]:=by simp
  obtain ⟨sp',h1,h2⟩:=arrs_back wd ch l (ar++[x]) 2 lb s b rest (by rw [hm];exact hd) (by simp;omega) (by omega) (by omega) hb
  refine ⟨sp',h1,?_⟩
  rw [List.cons_append,linesP,hline]
  simp only [bind,Except.bind]
  rw [h2]
  simp
structure Parts (p:Pg) (ls:List (List Bs)) (s1 ml s2:List Bs):Prop where
 width:1≤p.width∧p.width≤64
 nch:p.chans.length≤32
 ch:declM (0,0) [] p.chans=none
 nar:p.arrays.length≤32
 ar:arrsM [] p.arrays=none
 nfs:p.funcs.length≤32
 fs:funcsM p.chans (p.arrays.map Ar.nm) [] [] [] p.funcs = .ok (ls,s1)
 nmain:p.main.length≤1024
 main:bodyM p.chans (p.arrays.map Ar.nm) true p.main [] s1 = .ok (ml,s2)
theorem check_parts (p:Pg) (h:(checkM p).2=0):∃ ls s1 ml s2,Parts p ls s1 ml s2:=by
 unfold checkM at h
 by_cases c1:p.width<1∨64<p.width
 ·rw [if_pos c1] at h;cases h
 rw [if_neg c1] at h
 by_cases c2:32<p.chans.length
 ·rw [if_pos c2] at h;cases h
 rw [if_neg c2] at h
 cases hch:declM (0,0) [] p.chans with
 | some f =>
  rw [hch] at h
  simp only at h
  exfalso
  have:∀ (l seen:List Bs) (f:Flt),declM (0,0) seen l=some f→f.2 ≠ 0:=by
   intro l
   induction l with
   | nil=>intro seen f h;cases h
   | cons a r ih =>
    intro seen f h
    unfold declM at h
    split at h
    ·cases h;simp
    ·split at h
     ·cases h;simp
     ·exact ih _ _ h
  exact this _ _ _ hch h
 | none =>
 rw [hch] at h
 simp only at h
 by_cases c3:32<p.arrays.length
 ·rw [if_pos c3] at h;cases h
 rw [if_neg c3] at h
 cases har:arrsM [] p.arrays with
 | some f =>
  rw [har] at h
  simp only at h
  exfalso
  have:∀ (l:List Ar) (seen:List Bs) (f:Flt),arrsM seen l=some f→f.2 ≠ 0:=by
   intro l
   induction l with
   | nil=>intro seen f h;cases h
   | cons a r ih =>
    intro seen f h
    unfold arrsM at h
    split at h
    ·cases h;simp
    ·split at h
     ·cases h;simp
     ·split at h
      ·cases h;simp
      ·exact ih _ _ h
  exact this _ _ _ har h
 | none =>
 rw [har] at h
 simp only at h
 by_cases c4:32<p.funcs.length
 ·rw [if_pos c4] at h;cases h
 rw [if_neg c4] at h
 have hstep0:∀ (ch ar:List Bs) (m:Bool) (l s:List Bs) (x:In) (f:Flt),stepM ch ar m l s x = .error f→f.2 ≠ 0:=by
  intro ch ar m l s x f h
  unfold stepM at h
  split at h
  ·cases h;simp
  ·split at h
   ·split at h
    ·cases h
    ·cases h;simp
   ·split at h
    ·split at h
     ·cases h
     ·cases h;simp
    ·split at h
     ·split at h
      ·cases h;simp
      ·cases h
     ·split at h
      ·split at h
       ·cases h
       ·split at h
        ·cases h
        ·cases h;simp
      ·cases h
 have hbody0:∀ (ch ar:List Bs) (m:Bool) (code:List In) (l s:List Bs) (f:Flt),bodyM ch ar m code l s = .error f→f.2 ≠ 0:=by
  intro ch ar m code
  induction code with
  | nil=>intro l s f h;cases h
  | cons x r ih =>
   intro l s f h
   unfold bodyM at h
   cases e:stepM ch ar m l s x with
   | error g=>rw [e] at h;simp only at h;cases h;exact hstep0 _ _ _ _ _ _ _ e
   | ok q=>rw [e] at h;exact ih _ _ _ h
 have hins0:∀ (ch ar:List Bs) (m:Bool) (q:Int × Int) (code:List In) (s:List Bs) (f:Flt),instrsM ch ar m q code s = .error f→f.2 ≠ 0:=by
  intro ch ar m q code s f h
  unfold instrsM at h
  split at h
  ·cases h;simp
  ·exact hbody0 _ _ _ _ _ _ _ h
 have hfun0:∀ (ch ar:List Bs) (l:List Fu) (seen:List Bs) (ls:List (List Bs)) (s:List Bs) (f:Flt),funcsM ch ar seen ls s l = .error f→f.2 ≠ 0:=by
  intro ch ar l
  induction l with
  | nil=>intro seen ls s f h;cases h
  | cons g r ih =>
   intro seen ls s f h
   unfold funcsM at h
   split at h
   ·cases h;simp
   ·split at h
    ·cases h;simp
    ·split at h
     ·cases h;simp
     ·split at h
      ·rename_i x e
       cases h
       have:∀ (l seen:List Bs) (q:Int × Int) (f:Flt),declM q seen l=some f→f.2 ≠ 0:=by
        intro l
        induction l with
        | nil=>intro seen q f h;cases h
        | cons a r ih =>
         intro seen q f h
         unfold declM at h
         split at h
         ·cases h;simp
         ·split at h
          ·cases h;simp
          ·exact ih _ _ _ h
       exact this _ _ _ _ e
      ·split at h
       ·rename_i e;cases h;exact hins0 _ _ _ _ _ _ _ e
       ·exact ih _ _ _ _ h
 cases hf:funcsM p.chans (p.arrays.map Ar.nm) [] [] [] p.funcs with
 | error f=>rw [hf] at h;exact absurd h (hfun0 _ _ _ _ _ _ _ hf)
 | ok q =>
 obtain ⟨ls,s1⟩:=q
 rw [hf] at h
 simp only at h
 cases hm:instrsM p.chans (p.arrays.map Ar.nm) true (0,0) p.main s1 with
 | error f=>rw [hm] at h;exact absurd h (hins0 _ _ _ _ _ _ _ hm)
 | ok q =>
 obtain ⟨ml,s2⟩:=q
 clear h
 unfold instrsM at hm
 by_cases c5:1024<p.main.length
 ·rw [if_pos c5] at hm;cases hm
 rw [if_neg c5] at hm
 exact ⟨ls,s1,ml,s2,⟨by omega,by omega⟩,by omega,hch,by omega,har,by omega,hf,by omega,hm⟩
theorem lines_back (p:Pg) (h:(checkM p).2=0) (hn:NumP p) (o:List (List Wd)) (ho:txts o=linesW p):∃ st,linesP ps0P o = .ok st∧st.inn=3∧bareP st.p=bareP p:=by
 obtain ⟨ls,s1,ml,s2,⟨hw1,hw2⟩,c2,hch,c3,har,c4,hf,c5,hm⟩:=check_parts p h
 clear h
 unfold linesW at ho
 rw [show ([kWidth,Lib.itoa p.width] :: (p.chans.map fun c=>[kChan,c])++(p.arrays.map fun a=>[kArray,a.nm,Lib.itoa a.size])++p.funcs.flatMap funcW++[kMain] :: bodyW p.main) =
  [kWidth,Lib.itoa p.width] :: ((p.chans.map fun c=>[kChan,c])++((p.arrays.map fun a=>[kArray,a.nm,Lib.itoa a.size])++(p.funcs.flatMap funcW++([kMain] :: bodyW p.main)))) by simp [List.append_assoc]] at ho
 obtain ⟨a0,o0,rfl,ha0,ho⟩:=txts_cons ho
 obtain ⟨oc,o1,rfl,hoc,ho⟩:=txts_append ho
 obtain ⟨oa,o2,rfl,hoa,ho⟩:=txts_append ho
 obtain ⟨of,o3,rfl,hof,ho⟩:=txts_append ho
 obtain ⟨am,o4,rfl,ham,ho⟩:=txts_cons ho
 obtain ⟨ob,o5,rfl,hob,ho⟩:=txts_append ho
 obtain ⟨ae,o6,rfl,hae,ho⟩:=txts_cons ho
 obtain rfl:o6=[]:=by simpa [txts] using ho
 have hl0:lineP ps0P a0 = .ok (stD p.width [] [] [] 1 [] []):=by
  obtain ⟨w,r,rfl,hw,hr⟩:=List.map_eq_cons_iff.1 ha0
  obtain ⟨w1,q,rfl,hw1,hq⟩:=List.map_eq_cons_iff.1 hr
  obtain rfl:q=[]:=by simpa using hq
  rw [line0 _ _ _ rfl]
  unfold declareP
  rw [if_pos ⟨hw,rfl⟩]
  simp only [bind,Except.bind]
  rw [number_back (wpos w) 64 w1 [] p.width hw1 (by omega) (by omega) (Nat.le_refl _)]
  have e2:((p.width.toNat:Nat):Int)=p.width:=by omega
  simp only [endP,pure,Except.pure,ps0P,pg0,stD,e2]
 have h1:=chans_back p.width p.chans [] [] [] oc (oa++(of++(am :: (ob++[ae])))) hch (by simp;omega) hoc
 obtain ⟨sp2,hsp2,h2⟩:=arrs_back p.width p.chans p.arrays [] 1 [] [] oa (of++(am :: (ob++[ae]))) har (by simp;omega) (by omega) (by omega) hoa
 obtain ⟨fs',sp3,lb3,hfs,hsp3,h3⟩:=funcs_back p.width p.chans p.arrays p.funcs [] sp2 [] [] [] ls s1 of (am :: (ob++[ae])) hf hn.funcs (by simp;omega) hsp2 hof
 have hlm:lineP (stD p.width p.chans p.arrays fs' sp3 lb3 s1) am = .ok (stM p.width p.chans p.arrays fs' sp3 [] [] s1):=by
  obtain ⟨w,r,rfl,hw,hr⟩:=List.map_eq_cons_iff.1 ham
  obtain rfl:r=[]:=by simpa using hr
  rw [line0 _ _ _ rfl]
  unfold declareP
  rw [if_neg (by rw [hw];intro h;exact absurd h.1 (by decide)),if_neg (by rw [hw];intro h;exact absurd h.1 (by decide)),if_neg (by rw [hw];intro h;exact absurd h.1 (by decide)),if_neg (by rw [hw];intro h;exact absurd h.1 (by decide)),if_pos ⟨hw,hsp3⟩]
  rfl
 obtain ⟨c',hc',h4⟩:=body_back (isS_main p.width p.chans p.arrays fs' sp3) p.main [] [] s1 ml s2 ob [ae] hm hn.main (by simp;omega) hob
 have hle:lineP (stM p.width p.chans p.arrays fs' sp3 ([]++c') ml s2) ae = .ok { stM p.width p.chans p.arrays fs' sp3 c' ml s2 with inn:=3 } :=
  end_line _ ae hae (by show (2:Nat) ≠ 0;omega) (by show (2:Nat) ≠ 3;omega)
 refine ⟨{ stM p.width p.chans p.arrays fs' sp3 c' ml s2 with inn:=3 },?_,rfl,?_⟩
 ·rw [linesP,hl0]
  simp only [bind,Except.bind]
  rw [h1,List.nil_append,h2,List.nil_append,h3,linesP,hlm]
  simp only [bind,Except.bind]
  rw [h4,linesP,hle]
  simp only [bind,Except.bind]
  rfl
 ·unfold bareP stM
  simp only
  rw [hfs,hc',List.nil_append]
end Go.Proofs.YtbijamcoibonkaaDoor
