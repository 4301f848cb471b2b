/-
 The text of a well-formed program, read back (no program in sight).
-/
import Derived.Test.YtbijamcoibonkaaDoorCSPaC
namespace Go.Proofs.YtbijamcoibonkaaDoor
set_option linter.unusedSimpArgs false
set_option linter.unusedVariables false
open Go.RowKit Go.Shelf
def OkWd (w:Bs):Prop:=w ≠ []∧∀ d ∈ w,plB d=true
theorem jn_cons2 (w v:Bs) (r:List Bs):jn (w :: v :: r)=w++32 :: jn (v :: r):=by
 unfold jn
 rw [Lib.join_cons,Lib.join_cons]
 simp [Lib.joinTail,List.append_assoc]
theorem jn_one (w:Bs):jn [w]=w:=by unfold jn;rw [Lib.join_cons];simp [Lib.joinTail]
theorem jn_nl:∀ (l:List Bs),(∀ w ∈ l,OkWd w)→∀ d ∈ jn l,d ≠ 10
 | [],_=>by intro d hd;simp [jn,Lib.join] at hd
 | [w],h=>by
  intro d hd
  rw [jn_one] at hd
  exact (plB_spec ((h w (by simp)).2 d hd)).2.2.2
 | w :: v :: r,h=>by
  intro d hd
  rw [jn_cons2] at hd
  rcases List.mem_append.1 hd with hd | hd
  ·exact (plB_spec ((h w (by simp)).2 d hd)).2.2.2
  ·rcases List.mem_cons.1 hd with rfl | hd
   ·decide
   ·exact jn_nl (v :: r) (fun u hu=>h u (List.mem_cons_of_mem w hu)) d hd
theorem lt_line (n:Nat):∀ (l:List Bs) (i:Nat) (acc:List Wd),l ≠ []→(∀ w ∈ l,OkWd w)→∃ r,lt n (jn l) i none acc = .ok (acc++r)∧r.map (·.1)=l∧∀ x ∈ r,x.2.1=n
 | [],_,_,h,_=>absurd rfl h
 | [w],i,acc,_,h=>by
  rw [jn_one]
  have:=lt_word n w [] i acc (h w (by simp)).1 (h w (by simp)).2
  rw [List.append_nil] at this
  exact ⟨[(w,n,i+1)],by rw [this];rfl,rfl,by simp⟩
 | w :: v :: r,i,acc,_,h=>by
  rw [jn_cons2,lt_word n w _ i acc (h w (by simp)).1 (h w (by simp)).2,lt_sep1 n 32 _ _ _ _ (by decide) (by decide)]
  obtain ⟨q,hq,hm,hl⟩:=lt_line n (v :: r) (i+w.length+1) (flushW n (some (w,i+1)) acc) (by simp) fun u hu=>h u (List.mem_cons_of_mem w hu)
  refine ⟨(w,n,i+1) :: q,?_,by rw [List.map_cons,hm],?_⟩
  ·rw [hq];simp [flushW]
  ·intro x hx
   rcases List.mem_cons.1 hx with rfl | hx
   ·rfl
   ·exact hl x hx
theorem ls_text:∀ (L:List (List Bs)) (n:Nat) (out:List (List Wd)),(∀ l ∈ L,l ≠ []∧∀ w ∈ l,OkWd w)→∃ o,ls n (textT (L.map jn)) out = .ok (out++o)∧txts o=L
 | [],n,out,_=>by
  refine ⟨[],?_,rfl⟩
  rw [ls]
  simp [textT,cutNL,lt,flushW,addL]
 | l :: L,n,out,h=>by
  obtain ⟨h1,h2⟩:=h l (by simp)
  have ht:textT ((l :: L).map jn)=jn l++10 :: textT (L.map jn):=by simp [textT]
  obtain ⟨r,hr,hm,_⟩:=lt_line n l 0 [] h1 h2
  obtain ⟨o,ho,hx⟩:=ls_text L (n+1) (out++[r]) fun k hk=>h k (by simp [hk])
  refine ⟨r :: o,?_,by rw [txts,List.map_cons,hm];congr 1⟩
  rw [ht,ls,cutNL_at (jn l) _ (jn_nl l h2)]
  simp only
  rw [hr]
  have hne:r ≠ []:=by rintro rfl;simp at hm;exact h1 hm
  simp only [List.nil_append,dif_pos,addL,if_neg hne]
  rw [ho];simp
theorem okw_named {s:Bs} (h:namedB s=true):OkWd s:=by
 obtain ⟨h1,_,h3,_⟩:=named_spec h
 refine ⟨h1,fun d hd=>?_⟩
 have:=namB_bd (h3 d hd)
 simp [plB];omega
theorem okw_dec (n:Nat):OkWd (Lib.decDigits n):=by
 refine ⟨(dec_head n).2,fun d hd=>?_⟩
 have:=List.all_eq_true.1 (decDigits_all n) d hd
 simp [digB] at this
 simp [plB];omega
theorem okw_itoa (z:Int) (h:0≤z):OkWd (Lib.itoa z):=by
 have:Lib.itoa z=Lib.decDigits z.toNat:=by unfold Lib.itoa;rw [if_neg (by omega)]
 rw [this];exact okw_dec _
theorem okw_arg (a:Ag) (h:argB a=true):OkWd (argT a):=by
 unfold argT
 by_cases e:a.nm=[]
 ·rw [if_pos e];exact okw_dec _
 ·rw [if_neg e]
  unfold argB at h
  simp only [e,decide_false,Bool.false_or,Bool.and_eq_true] at h
  exact okw_named h.1
def okwB (w:Bs):Bool:=!w.isEmpty && w.all plB
theorem okw_lit {w:Bs} (h:okwB w=true):OkWd w:=by
 unfold okwB at h
 simp at h
 exact ⟨by simpa using h.1,fun d hd=>h.2 d hd⟩
theorem okw_op {o:Nat} (h1:2≤o) (h2:o≤20):OkWd (opT o):=by
 have:∀ o,o<21→2≤o→okwB (opT o)=true:=by decide
 exact okw_lit (this o (by omega) h1)
theorem okw_lbl {s:Bs} (h:namedB s=true):OkWd (s++[58]):=by
 refine ⟨by simp,fun d hd=>?_⟩
 rcases List.mem_append.1 hd with hd | hd
 ·exact (okw_named h).2 d hd
 ·obtain rfl:=List.mem_singleton.1 hd;decide
theorem okw_instr (x:In) (h:formB x=true):wlI x ≠ []∧∀ w ∈ wlI x,OkWd w:=by
 unfold formB at h
 simp only [Bool.and_eq_true,decide_eq_true_eq,Bool.or_eq_true,List.all_eq_true] at h
 obtain ⟨⟨⟨⟨⟨⟨hk,hop⟩,hd⟩,hn⟩,hwt⟩,hl⟩,hag⟩:=h
 obtain ⟨kind,op,dst,nm,args,pos⟩:=x
 simp only at *
 have hA:∀ w ∈ args.map argT,OkWd w:=by
  intro w hw
  obtain ⟨a,ha,rfl⟩:=List.mem_map.1 hw
  exact okw_arg a (hag a ha)
 have e61:OkWd [61]:=okw_lit (by decide)
 match kind,hk with
 | 0,_ =>
  simp [fieldsL,fieldB] at hd hn
  refine ⟨by simp [wlI,wordsM],fun w hw=>?_⟩
  simp only [wlI,wordsM] at hw
  simp only [show ¬ (0=10) by decide,if_false,List.mem_cons] at hw
  rcases hw with rfl | rfl | hw
  ·exact okw_named hd
  ·exact e61
  ·exact hA w hw
 | 1,_ =>
  simp [fieldsL,fieldB,opOkB] at hop hd hn
  refine ⟨by simp [wlI,wordsM],fun w hw=>?_⟩
  simp only [wlI,wordsM] at hw
  simp only [show ¬ (1=10) by decide,if_false,List.mem_cons] at hw
  rcases hw with rfl | rfl | rfl | hw
  ·exact okw_named hd
  ·exact e61
  ·exact okw_op hop.1 hop.2
  ·exact hA w hw
 | 2,_ =>
  simp [fieldsL,fieldB] at hd hn
  refine ⟨by simp [wlI,wordsM],fun w hw=>?_⟩
  simp only [wlI,wordsM] at hw
  simp only [show ¬ (2=10) by decide,if_false,List.mem_cons] at hw
  rcases hw with rfl | rfl | rfl | rfl | hw
  ·exact okw_named hd
  ·exact e61
  ·exact okw_lit (by decide)
  ·exact okw_named hn
  ·exact hA w hw
 | 3,_ =>
  simp [fieldsL,fieldB] at hd hn
  refine ⟨by simp [wlI,wordsM],fun w hw=>?_⟩
  simp only [wlI,wordsM] at hw
  simp only [show ¬ (3=10) by decide,if_false,List.mem_cons] at hw
  rcases hw with rfl | rfl | hw
  ·exact okw_lit (by decide)
  ·exact okw_named hn
  ·exact hA w hw
 | 4,_ =>
  simp [fieldsL,fieldB] at hd hn
  refine ⟨by simp [wlI,wordsM],fun w hw=>?_⟩
  simp only [wlI,wordsM] at hw
  simp only [show ¬ (4=10) by decide,if_false,List.mem_cons] at hw
  rcases hw with rfl | rfl | rfl | rfl | hw
  ·exact okw_named hd
  ·exact e61
  ·exact okw_lit (by decide)
  ·exact okw_named hn
  ·exact hA w hw
 | 5,_ =>
  simp [fieldsL,fieldB] at hd hn
  refine ⟨by simp [wlI,wordsM],fun w hw=>?_⟩
  simp only [wlI,wordsM] at hw
  simp only [show ¬ (5=10) by decide,if_false,List.mem_cons,List.not_mem_nil,or_false] at hw
  rcases hw with rfl | rfl | rfl
  ·exact okw_lit (by decide)
  ·exact okw_named hd
  ·exact okw_named hn
 | 6,_ =>
  simp [fieldsL,fieldB] at hd hn
  refine ⟨by simp [wlI,wordsM],fun w hw=>?_⟩
  simp only [wlI,wordsM] at hw
  simp only [show ¬ (6=10) by decide,if_false,List.mem_cons] at hw
  rcases hw with rfl | rfl | hw
  ·exact okw_lit (by decide)
  ·exact okw_named hn
  ·exact hA w hw
 | 7,_ =>
  simp [fieldsL,fieldB] at hd hn
  refine ⟨by simp [wlI,wordsM],fun w hw=>?_⟩
  simp only [wlI,wordsM] at hw
  simp only [show ¬ (7=10) by decide,if_false,List.mem_cons] at hw
  rcases hw with rfl | rfl | rfl | rfl | hw
  ·exact okw_named hd
  ·exact e61
  ·exact okw_lit (by decide)
  ·exact okw_named hn
  ·exact hA w hw
 | 8,_ =>
  simp [fieldsL,fieldB] at hd hn
  refine ⟨by simp [wlI,wordsM],fun w hw=>?_⟩
  simp only [wlI,wordsM] at hw
  simp only [show ¬ (8=10) by decide,if_false,List.mem_cons] at hw
  rcases hw with rfl | rfl | hw
  ·exact okw_lit (by decide)
  ·exact okw_named hn
  ·exact hA w hw
 | 9,_ =>
  simp [fieldsL,fieldB] at hd hn
  refine ⟨by simp [wlI,wordsM],fun w hw=>?_⟩
  simp only [wlI,wordsM] at hw
  simp only [show ¬ (9=10) by decide,if_false,List.mem_cons,List.mem_append,List.not_mem_nil,or_false] at hw
  rcases hw with rfl | hw | rfl
  ·exact okw_lit (by decide)
  ·exact hA w hw
  ·exact okw_named hn
 | 10,_ =>
  simp [fieldsL,fieldB] at hd hn
  refine ⟨by simp [wlI,wordsM],fun w hw=>?_⟩
  simp only [wlI,if_true,List.mem_singleton] at hw
  subst hw
  exact okw_lbl hn
 | 11,_ =>
  refine ⟨by simp [wlI,wordsM],fun w hw=>?_⟩
  simp only [wlI,wordsM] at hw
  simp only [show ¬ (11=10) by decide,if_false,List.mem_cons,List.not_mem_nil,or_false] at hw
  subst hw
  exact okw_lit (by decide)
 | 12,_ =>
  refine ⟨by simp [wlI,wordsM],fun w hw=>?_⟩
  simp only [wlI,wordsM] at hw
  simp only [show ¬ (12=10) by decide,if_false,List.mem_cons] at hw
  rcases hw with rfl | hw
  ·exact okw_lit (by decide)
  ·exact hA w hw
 | k+13,h=>omega
theorem decl_named (q:Int × Int):∀ (l seen:List Bs),declM q seen l=none→∀ s ∈ l,namedB s=true
 | [],_,_=>by simp
 | x :: r,seen,h=>by
  unfold declM at h
  split at h
  ·cases h
  ·rename_i c
   split at h
   ·cases h
   ·intro s hs
    rcases List.mem_cons.1 hs with rfl | hs
    ·simpa using c
    ·exact decl_named q r _ h s hs
theorem arrs_named:∀ (l:List Ar) (seen:List Bs),arrsM seen l=none→∀ a ∈ l,namedB a.nm=true∧1≤a.size∧a.size≤64
 | [],_,_=>by simp
 | x :: r,seen,h=>by
  unfold arrsM at h
  split at h
  ·cases h
  ·rename_i c
   split at h
   ·cases h
   ·split at h
    ·cases h
    ·rename_i c3
     intro s hs
     rcases List.mem_cons.1 hs with rfl | hs
     ·exact ⟨by simpa using c,by omega,by omega⟩
     ·exact arrs_named r _ h s hs
theorem step_form {ch ar:List Bs} {m:Bool} {l s l' s':List Bs} {x:In} (h:stepM ch ar m l s x = .ok (l',s')):formB x=true:=by
 unfold stepM at h
 split at h
 ·cases h
 ·rename_i c
  cases hx:formB x with
  | true=>rfl
  | false=>rw [hx] at c;simp at c
theorem body_form {ch ar:List Bs} {m:Bool}:∀ (code:List In) (l s l' s':List Bs),bodyM ch ar m code l s = .ok (l',s')→∀ x ∈ code,formB x=true
 | [],_,_,_,_,_=>by simp
 | y :: r,l,s,l',s',h=>by
  unfold bodyM at h
  cases e:stepM ch ar m l s y with
  | error f=>rw [e] at h;cases h
  | ok q =>
   obtain ⟨l1,s1⟩:=q
   rw [e] at h
   intro x hx
   rcases List.mem_cons.1 hx with rfl | hx
   ·exact step_form e
   ·exact body_form r l1 s1 l' s' h x hx
theorem funcs_form {ch ar:List Bs}:∀ (l:List Fu) (seen:List Bs) (ls:List (List Bs)) (s:List Bs) (ls':List (List Bs)) (s':List Bs),funcsM ch ar seen ls s l = .ok (ls',s') →
  ∀ f ∈ l,namedB f.nm=true∧(∀ q ∈ f.params,namedB q=true)∧f.params.length≤32∧f.code.length≤1024∧∀ x ∈ f.code,formB x=true
 | [],_,_,_,_,_,_=>by simp
 | g :: r,seen,ls,s,ls',s',h=>by
  unfold funcsM at h
  by_cases c1:namedB g.nm=false
  ·rw [if_pos c1] at h;cases h
  rw [if_neg c1] at h
  by_cases c2:seen.contains g.nm=true
  ·rw [if_pos c2] at h;cases h
  rw [if_neg c2] at h
  by_cases c3:32<g.params.length
  ·rw [if_pos c3] at h;cases h
  rw [if_neg c3] at h
  cases hd:declM g.pos [] g.params with
  | some x=>rw [hd] at h;cases h
  | none =>
   rw [hd] at h
   simp only at h
   unfold instrsM at h
   by_cases c4:1024<g.code.length
   ·rw [if_pos c4] at h;cases h
   rw [if_neg c4] at h
   cases hbm:bodyM ch ar false g.code [] s with
   | error x=>rw [hbm] at h;cases h
   | ok q' =>
    obtain ⟨l1,s1⟩:=q'
    rw [hbm] at h
    intro f hf
    rcases List.mem_cons.1 hf with rfl | hf
    ·exact ⟨by simpa using c1,decl_named _ _ _ hd,by omega,by omega,body_form _ _ _ _ _ hbm⟩
    ·exact funcs_form r _ _ _ _ _ h f hf
theorem okw_body (l:List In) (h:∀ x ∈ l,formB x=true):∀ k ∈ bodyW l,k ≠ []∧∀ w ∈ k,OkWd w:=by
 intro k hk
 unfold bodyW at hk
 rcases List.mem_append.1 hk with hk | hk
 ·obtain ⟨x,hx,rfl⟩:=List.mem_map.1 hk
  exact okw_instr x (h x hx)
 ·obtain rfl:=List.mem_singleton.1 hk
  exact ⟨by simp,fun w hw=>by obtain rfl:=List.mem_singleton.1 hw;exact okw_lit (by decide)⟩
theorem okw_lines (p:Pg) (h:(checkM p).2=0):∀ k ∈ linesW p,k ≠ []∧∀ w ∈ k,OkWd w:=by
 obtain ⟨ls,s1,ml,s2,⟨hw1,hw2⟩,c2,hch,c3,har,c4,hf,c5,hm⟩:=check_parts p h
 intro k hk
 unfold linesW at hk
 simp only [List.cons_append,List.append_assoc,List.mem_cons,List.mem_append,List.mem_map,List.mem_flatMap] at hk
 rcases hk with rfl | ⟨c,hc,rfl⟩ | ⟨a,ha,rfl⟩ | ⟨f,hf',hk⟩ | rfl | hk
 ·refine ⟨by simp,fun w hw=>?_⟩
  simp only [List.mem_cons,List.not_mem_nil,or_false] at hw
  rcases hw with rfl | rfl
  ·exact okw_lit (by decide)
  ·exact okw_itoa _ (by omega)
 ·refine ⟨by simp,fun w hw=>?_⟩
  simp only [List.mem_cons,List.not_mem_nil,or_false] at hw
  rcases hw with rfl | rfl
  ·exact okw_lit (by decide)
  ·exact okw_named (decl_named _ _ _ hch _ hc)
 ·obtain ⟨a1,a2,a3⟩:=arrs_named _ _ har a ha
  refine ⟨by simp,fun w hw=>?_⟩
  simp only [List.mem_cons,List.not_mem_nil,or_false] at hw
  rcases hw with rfl | rfl | rfl
  ·exact okw_lit (by decide)
  ·exact okw_named a1
  ·exact okw_itoa _ (by omega)
 ·obtain ⟨f1,f2,_,_,f3⟩:=funcs_form _ _ _ _ _ _ hf f hf'
  unfold funcW at hk
  rcases List.mem_cons.1 hk with rfl | hk
  ·refine ⟨by simp,fun w hw=>?_⟩
   simp only [List.mem_cons] at hw
   rcases hw with rfl | rfl | hw
   ·exact okw_lit (by decide)
   ·exact okw_named f1
   ·exact okw_named (f2 w hw)
  ·exact okw_body _ f3 k hk
 ·refine ⟨by simp,fun w hw=>?_⟩
  obtain rfl:=List.mem_singleton.1 hw
  exact okw_lit (by decide)
 ·exact okw_body _ (body_form _ _ _ _ _ hm) k hk
theorem line_jn (x:In):lineM x=jn (wlI x):=by
 unfold lineM wlI
 by_cases h:x.kind=10
 ·rw [if_pos h,if_pos h,jn_one]
 ·rw [if_neg h,if_neg h]
theorem body_jn (l:List In):bodyT l=(bodyW l).map jn:=by
 unfold bodyT bodyW
 rw [List.map_append,List.map_map]
 congr 1
 apply List.map_congr_left
 intro x _
 exact line_jn x
theorem lines_jn (p:Pg):linesT p=(linesW p).map jn:=by
 unfold linesT linesW
 simp only [List.map_append,List.map_cons,List.map_map,List.map_flatMap,body_jn,jn_one]
 congr 2
 ·congr 1
  funext f
  unfold funcT funcW
  rw [List.map_cons,body_jn]
  rfl
 all_goals rfl
theorem text_lines (p:Pg) (h:(checkM p).2=0):∃ o,tok (textT (linesT p)) = .ok o∧txts o=linesW p:=by
 rw [lines_jn]
 obtain ⟨o,h1,h2⟩:=ls_text (linesW p) 1 [] (okw_lines p h)
 exact ⟨o,by rw [tok,h1,List.nil_append],h2⟩
theorem bI_kind {x y:In} (h:bareI x=bareI y):x.kind=y.kind:=by have:=congrArg In.kind h;exact this
theorem bI_nm {x y:In} (h:bareI x=bareI y):x.nm=y.nm:=by have:=congrArg In.nm h;exact this
theorem bI_args {x y:In} (h:bareI x=bareI y):x.args=y.args:=by have:=congrArg In.args h;exact this
theorem bF_nm {x y:Fu} (h:bareF x=bareF y):x.nm=y.nm:=by have:=congrArg Fu.nm h;exact this
theorem bF_params {x y:Fu} (h:bareF x=bareF y):x.params=y.params:=by have:=congrArg Fu.params h;exact this
theorem bF_code {x y:Fu} (h:bareF x=bareF y):x.code.map bareI=y.code.map bareI:=by have:=congrArg Fu.code h;exact this
theorem bP_funcs {p q:Pg} (h:bareP p=bareP q):p.funcs.map bareF=q.funcs.map bareF:=by have:=congrArg Pg.funcs h;exact this
theorem bP_main {p q:Pg} (h:bareP p=bareP q):p.main.map bareI=q.main.map bareI:=by have:=congrArg Pg.main h;exact this
theorem bP_width {p q:Pg} (h:bareP p=bareP q):p.width=q.width:=by have:=congrArg Pg.width h;exact this
theorem bP_chans {p q:Pg} (h:bareP p=bareP q):p.chans=q.chans:=by have:=congrArg Pg.chans h;exact this
theorem bP_arrays {p q:Pg} (h:bareP p=bareP q):p.arrays=q.arrays:=by have:=congrArg Pg.arrays h;exact this
theorem chk_decl (q q':Int × Int):∀ (l seen:List Bs),(declM q seen l).map Prod.snd=(declM q' seen l).map Prod.snd
 | [],_=>rfl
 | x :: r,seen=>by
  unfold declM
  split
  ·rfl
  ·split
   ·rfl
   ·exact chk_decl q q' r _
def sndE {α:Type} (x:Except Flt α):Except Int α:=match x with | .error f => .error f.2 | .ok a => .ok a
theorem sndE_ok {α:Type} {x y:Except Flt α} (h:sndE x=sndE y) {a:α} (hx:x = .ok a):y = .ok a:=by
 subst hx
 cases y with
 | error f=>simp [sndE] at h
 | ok b=>simp [sndE] at h;rw [h]
theorem sndE_err {α:Type} {x y:Except Flt α} (h:sndE x=sndE y) {f:Flt} (hx:x = .error f):∃ g,y = .error g∧g.2=f.2:=by
 subst hx
 cases y with
 | error g=>simp [sndE] at h;exact ⟨g,rfl,h.symm⟩
 | ok b=>simp [sndE] at h
theorem chk_step (ch ar:List Bs) (m:Bool) (l s:List Bs) (x y:In) (hxy:bareI x=bareI y):sndE (stepM ch ar m l s x)=sndE (stepM ch ar m l s y):=by
 obtain ⟨k,o,d,n,a,p⟩:=x
 obtain ⟨k',o',d',n',a',p'⟩:=y
 simp only [bareI,In.mk.injEq,and_true] at hxy
 obtain ⟨rfl,rfl,rfl,rfl,rfl⟩:=hxy
 unfold stepM
 rw [show formB ⟨k,o,d,n,a,p⟩=formB ⟨k,o,d,n,a,p'⟩ from rfl]
 simp only
 split
 ·rfl
 ·split
  ·split <;> rfl
  ·split
   ·split <;> rfl
   ·split
    ·split <;> rfl
    ·split
     ·split
      ·rfl
      ·split <;> rfl
     ·rfl
theorem chk_body (ch ar:List Bs) (m:Bool):∀ (c c':List In) (l s:List Bs),c.map bareI=c'.map bareI→sndE (bodyM ch ar m c l s)=sndE (bodyM ch ar m c' l s)
 | [],[],_,_,_=>rfl
 | [],y :: c',_,_,h=>by simp at h
 | x :: c,[],_,_,h=>by simp at h
 | x :: c,y :: c',l,s,h=>by
  simp only [List.map_cons,List.cons.injEq] at h
  unfold bodyM
  have hs:=chk_step ch ar m l s x y h.1
  cases e:stepM ch ar m l s x with
  | error f =>
   obtain ⟨g,hg,hgf⟩:=sndE_err hs e
   rw [hg];simp [sndE,hgf]
  | ok q =>
   rw [sndE_ok hs e]
   exact chk_body ch ar m c c' _ _ h.2
theorem chk_ins (ch ar:List Bs) (m:Bool) (q q':Int × Int) (c c':List In) (s:List Bs) (h:c.map bareI=c'.map bareI):sndE (instrsM ch ar m q c s)=sndE (instrsM ch ar m q' c' s):=by
 have hl:c.length=c'.length:=by simpa using congrArg List.length h
 unfold instrsM
 rw [hl]
 split
 ·rfl
 ·exact chk_body ch ar m c c' [] s h
theorem chk_funcs (ch ar:List Bs):∀ (l l':List Fu) (seen:List Bs) (ls:List (List Bs)) (s:List Bs),l.map bareF=l'.map bareF→sndE (funcsM ch ar seen ls s l)=sndE (funcsM ch ar seen ls s l')
 | [],[],_,_,_,_=>rfl
 | [],y :: c',_,_,_,h=>by simp at h
 | x :: c,[],_,_,_,h=>by simp at h
 | ⟨nm,ps,cd,pos⟩ :: l,⟨nm',ps',cd',pos'⟩ :: l',seen,ls,s,h=>by
  simp only [List.map_cons,List.cons.injEq,bareF,Fu.mk.injEq,and_true] at h
  obtain ⟨⟨rfl,rfl,hcd⟩,hl⟩:=h
  unfold funcsM
  simp only
  split
  ·rfl
  ·split
   ·rfl
   ·split
    ·rfl
    ·have hd:=chk_decl pos pos' ps []
     cases e:declM pos [] ps with
     | some f =>
      rw [e] at hd
      cases e':declM pos' [] ps with
      | none=>rw [e'] at hd;simp at hd
      | some g=>rw [e'] at hd;simp at hd;simp [sndE,hd]
     | none =>
      rw [e] at hd
      cases e':declM pos' [] ps with
      | some g=>rw [e'] at hd;simp at hd
      | none =>
       simp only
       have hi:=chk_ins ch ar false pos pos' cd cd' s hcd
       cases e2:instrsM ch ar false pos cd s with
       | error f =>
        obtain ⟨g,hg,hgf⟩:=sndE_err hi e2
        rw [hg];simp [sndE,hgf]
       | ok q =>
        rw [sndE_ok hi e2]
        exact chk_funcs ch ar l l' _ _ _ hl
theorem bare_find (p q:Pg) (h:p.funcs.map bareF=q.funcs.map bareF) (s:Bs):((p.funcs.find? fun f=>decide (f.nm=s)).map bareF)=((q.funcs.find? fun f=>decide (f.nm=s)).map bareF):=by
 have key:∀ l:List Fu,((l.find? fun f=>decide (f.nm=s)).map bareF)=(l.map bareF).find? fun f=>decide (f.nm=s):=by
  intro l
  induction l with
  | nil=>rfl
  | cons f r ih =>
   rw [List.map_cons,List.find?_cons,List.find?_cons]
   show Option.map bareF (match decide (f.nm=s) with | true=>some f | false=>r.find? fun f=>decide (f.nm=s))=match decide (f.nm=s) with | true=>some (bareF f) | false=>(r.map bareF).find? fun f=>decide (f.nm=s)
   cases decide (f.nm=s)
   ·exact ih
   ·rfl
 rw [key,key,h]
theorem bare_params (p q:Pg) (h:p.funcs.map bareF=q.funcs.map bareF) (s:Bs):paramsOf p s=paramsOf q s:=by
 have:=congrArg (Option.map fun f:Fu=>f.params.length) (bare_find p q h s)
 simp only [Option.map_map] at this
 exact this
theorem bare_code (p q:Pg) (h:p.funcs.map bareF=q.funcs.map bareF) (s:Bs):callsM (codeOf p s)=callsM (codeOf q s):=by
 have hb:=bare_find p q h s
 unfold codeOf
 have hc:∀ c c':List In,c.map bareI=c'.map bareI→callsM c=callsM c':=by
  intro c
  induction c with
  | nil=>intro c' h;cases c' with | nil=>rfl | cons y r=>simp at h
  | cons x r ih =>
   intro c' h
   cases c' with
   | nil=>simp at h
   | cons y r' =>
    simp only [List.map_cons,List.cons.injEq] at h
    have hk:x.kind=y.kind:=bI_kind h.1
    have hn:x.nm=y.nm:=bI_nm h.1
    have:=ih r' h.2
    unfold callsM at this ⊢
    simp only [List.filter_cons,hk]
    split
    ·rw [List.map_cons,List.map_cons,this,hn]
    ·exact this
 cases e:(p.funcs.find? fun f=>decide (f.nm=s)) with
 | none =>
  rw [e] at hb
  cases e':(q.funcs.find? fun f=>decide (f.nm=s)) with
  | none=>rfl
  | some g=>rw [e'] at hb;simp at hb
 | some f =>
  rw [e] at hb
  cases e':(q.funcs.find? fun f=>decide (f.nm=s)) with
  | none=>rw [e'] at hb;simp at hb
  | some g =>
   rw [e'] at hb
   simp only [Option.map_some,Option.some.injEq] at hb
   exact hc _ _ (bF_code hb)
theorem bare_loop (p q:Pg) (h:p.funcs.map bareF=q.funcs.map bareF) (s:Bs):loopB p s=loopB q s:=by
 have hl:p.funcs.length=q.funcs.length:=by simpa using congrArg List.length h
 have:∀ n seen todo,loopsM p s n seen todo=loopsM q s n seen todo:=by
  intro n
  induction n with
  | zero=>intro seen todo;rfl
  | succ n ih =>
   intro seen todo
   unfold loopsM
   rw [bare_code p q h]
   split
   ·rfl
   ·simp only
    split
    ·rfl
    ·exact ih _ _
 unfold loopB
 rw [hl,this]
theorem chk_target (p q:Pg) (h:p.funcs.map bareF=q.funcs.map bareF) (l:List Bs) (x y:In) (hxy:bareI x=bareI y):(targetM p l x).map Prod.snd=(targetM q l y).map Prod.snd:=by
 have hk:x.kind=y.kind:=bI_kind hxy
 have hn:x.nm=y.nm:=bI_nm hxy
 have ha:x.args=y.args:=bI_args hxy
 unfold targetM
 rw [hk,hn,ha,bare_params p q h]
 split
 ·split <;> rfl
 ·split
  ·split
   ·rfl
   ·split <;> rfl
  ·rfl
theorem chk_targets (p q:Pg) (h:p.funcs.map bareF=q.funcs.map bareF) (l:List Bs):∀ c c':List In,c.map bareI=c'.map bareI→(targetsM p l c).map Prod.snd=(targetsM q l c').map Prod.snd
 | [],[],_=>rfl
 | [],y :: c',h=>by simp at h
 | x :: c,[],h=>by simp at h
 | x :: c,y :: c',hc=>by
  simp only [List.map_cons,List.cons.injEq] at hc
  have ht:=chk_target p q h l x y hc.1
  unfold targetsM
  cases e:targetM p l x with
  | some f =>
   rw [e] at ht
   cases e':targetM q l y with
   | none=>rw [e'] at ht;simp at ht
   | some g=>rw [e'] at ht;exact ht
  | none =>
   rw [e] at ht
   cases e':targetM q l y with
   | some g=>rw [e'] at ht;simp at ht
   | none=>exact chk_targets p q h l c c' hc.2
theorem chk_later (p q:Pg) (h:p.funcs.map bareF=q.funcs.map bareF):∀ (l l':List Fu) (ls:List (List Bs)),l.map bareF=l'.map bareF→(laterM p ls l).map Prod.snd=(laterM q ls l').map Prod.snd
 | [],[],_,_=>rfl
 | [],y :: c',_,h=>by simp at h
 | x :: c,[],_,h=>by simp at h
 | x :: c,y :: c',ls,hc=>by
  simp only [List.map_cons,List.cons.injEq] at hc
  have ht:=chk_targets p q h (ls.headD []) x.code y.code (bF_code hc.1)
  unfold laterM
  cases e:targetsM p (ls.headD []) x.code with
  | some f =>
   rw [e] at ht
   cases e':targetsM q (ls.headD []) y.code with
   | none=>rw [e'] at ht;simp at ht
   | some g=>rw [e'] at ht;exact ht
  | none =>
   rw [e] at ht
   cases e':targetsM q (ls.headD []) y.code with
   | some g=>rw [e'] at ht;simp at ht
   | none=>exact chk_later p q h c c' _ hc.2
theorem chk_loops (p q:Pg) (h:p.funcs.map bareF=q.funcs.map bareF):∀ (l l':List Fu),l.map bareF=l'.map bareF→(loopsAllM p l).map Prod.snd=(loopsAllM q l').map Prod.snd
 | [],[],_=>rfl
 | [],y :: c',h=>by simp at h
 | x :: c,[],h=>by simp at h
 | x :: c,y :: c',hc=>by
  simp only [List.map_cons,List.cons.injEq] at hc
  unfold loopsAllM
  rw [show x.nm=y.nm from bF_nm hc.1,bare_loop p q h]
  split
  ·rfl
  ·exact chk_loops p q h c c' hc.2
theorem check_bare (p q:Pg) (h:bareP p=bareP q):(checkM p).2=(checkM q).2:=by
 have hf:p.funcs.map bareF=q.funcs.map bareF:=bP_funcs h
 have hm:p.main.map bareI=q.main.map bareI:=bP_main h
 have hw:p.width=q.width:=bP_width h
 have hc:p.chans=q.chans:=bP_chans h
 have ha:p.arrays=q.arrays:=bP_arrays h
 have hl:p.funcs.length=q.funcs.length:=by simpa using congrArg List.length hf
 unfold checkM
 rw [hw,hc,ha,hl]
 split
 ·rfl
 ·split
  ·rfl
  ·split
   ·rfl
   ·split
    ·rfl
    ·split
     ·rfl
     ·split
      ·rfl
      ·have h1:=chk_funcs q.chans (q.arrays.map Ar.nm) p.funcs q.funcs [] [] [] hf
       cases e:funcsM q.chans (q.arrays.map Ar.nm) [] [] [] p.funcs with
       | error f =>
        obtain ⟨g,hg,hgf⟩:=sndE_err h1 e
        rw [hg];exact hgf.symm
       | ok x =>
        rw [sndE_ok h1 e]
        obtain ⟨ls,s1⟩:=x
        simp only
        have h2:=chk_ins q.chans (q.arrays.map Ar.nm) true (0,0) (0,0) p.main q.main s1 hm
        cases e2:instrsM q.chans (q.arrays.map Ar.nm) true (0,0) p.main s1 with
        | error f =>
         obtain ⟨g,hg,hgf⟩:=sndE_err h2 e2
         rw [hg];exact hgf.symm
        | ok x =>
         rw [sndE_ok h2 e2]
         obtain ⟨ml,s2⟩:=x
         simp only
         have h3:=chk_later p q hf p.funcs q.funcs ls hf
         cases e3:laterM p ls p.funcs with
         | some f =>
          rw [e3] at h3
          cases e':laterM q ls q.funcs with
          | none=>rw [e'] at h3;simp at h3
          | some g=>rw [e'] at h3;simpa using h3
         | none =>
          rw [e3] at h3
          cases e':laterM q ls q.funcs with
          | some g=>rw [e'] at h3;simp at h3
          | none =>
           simp only
           have h4:=chk_targets p q hf ml p.main q.main hm
           cases e4:targetsM p ml p.main with
           | some f =>
            rw [e4] at h4
            cases e':targetsM q ml q.main with
            | none=>rw [e'] at h4;simp at h4
            | some g=>rw [e'] at h4;simpa using h4
           | none =>
            rw [e4] at h4
            cases e':targetsM q ml q.main with
            | some g=>rw [e'] at h4;simp at h4
            | none =>
             simp only
             have h5:=chk_loops p q hf p.funcs q.funcs hf
             cases e5:loopsAllM p p.funcs with
             | some f =>
              rw [e5] at h5
              cases e':loopsAllM q q.funcs with
              | none=>rw [e'] at h5;simp at h5
              | some g=>rw [e'] at h5;simpa using h5
             | none =>
              rw [e5] at h5
              cases e':loopsAllM q q.funcs with
              | some g=>rw [e'] at h5;simp at h5
              | none=>rfl
theorem lines_bare (p q:Pg) (h:bareP p=bareP q):linesW p=linesW q:=by
 have hf:p.funcs.map bareF=q.funcs.map bareF:=bP_funcs h
 have hm:p.main.map bareI=q.main.map bareI:=bP_main h
 have hi:∀ c c':List In,c.map bareI=c'.map bareI→c.map wlI=c'.map wlI:=by
  intro c c' h
  have:=congrArg (List.map wlI) h
  rw [List.map_map,List.map_map] at this
  exact this
 have hb:∀ c c':List In,c.map bareI=c'.map bareI→bodyW c=bodyW c':=fun c c' h=>by unfold bodyW;rw [hi c c' h]
 have hff:∀ l l':List Fu,l.map bareF=l'.map bareF→l.flatMap funcW=l'.flatMap funcW:=by
  intro l
  induction l with
  | nil=>intro l' h;cases l' with | nil=>rfl | cons y r=>simp at h
  | cons x r ih =>
   intro l' h
   cases l' with
   | nil=>simp at h
   | cons y r' =>
    simp only [List.map_cons,List.cons.injEq] at h
    rw [List.flatMap_cons,List.flatMap_cons,ih r' h.2]
    congr 1
    unfold funcW
    rw [show x.nm=y.nm from bF_nm h.1,show x.params=y.params from bF_params h.1,hb _ _ (bF_code h.1)]
 unfold linesW
 rw [show p.width=q.width from bP_width h,show p.chans=q.chans from bP_chans h,show p.arrays=q.arrays from bP_arrays h,hff _ _ hf,hb _ _ hm]
theorem parse_print (p:Pg) (h:(checkM p).2=0) (hn:NumP p) (hl:(textT (linesT p)).length≤65536):∃ q,parseE (textT (linesT p)) = .ok q∧bareP q=bareP p:=by
 obtain ⟨o,ho,hx⟩:=text_lines p h
 obtain ⟨st,h1,h2,h3⟩:=lines_back p h hn o hx
 refine ⟨st.p,?_,h3⟩
 unfold parseE
 rw [if_neg (by omega),ho]
 simp only [h1,bind,Except.bind,needM,h2,decide_true,if_true]
 rw [check_bare st.p p h3,h]
 rfl
theorem text_iff (p q:Pg) (hp:(checkM p).2=0) (hq:(checkM q).2=0) (np:NumP p) (nq:NumP q):textT (linesT p)=textT (linesT q) ↔ bareP p=bareP q:=by
 constructor
 ·intro h
  obtain ⟨o,ho,hx⟩:=text_lines p hp
  obtain ⟨o',ho',hx'⟩:=text_lines q hq
  rw [h,ho'] at ho
  cases ho
  obtain ⟨st,h1,_,h3⟩:=lines_back p hp np o hx
  obtain ⟨st',h1',_,h3'⟩:=lines_back q hq nq o hx'
  rw [h1] at h1'
  cases h1'
  rw [← h3,h3']
 ·intro h
  rw [lines_jn,lines_jn,lines_bare p q h]
end Go.Proofs.YtbijamcoibonkaaDoor
