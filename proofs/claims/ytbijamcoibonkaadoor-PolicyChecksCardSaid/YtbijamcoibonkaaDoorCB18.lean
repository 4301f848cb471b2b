/-
 Reading programs: what lines keep.
-/
import Derived.Test.YtbijamcoibonkaaDoorCB17
import Derived.Test.YtbijamcoibonkaaDoorCB15
import Derived.Deep.DeepCutAuto
import Derived.Test.YtbijamcoibonkaaDoorCB7
namespace Go.Proofs.YtbijamcoibonkaaDoor
set_option linter.unusedSimpArgs false
set_option linter.unusedVariables false
open Go.RowKit Go.Shelf
attribute [local go_sem] Oper.semAt_some
structure SIv (S:PS):Prop where
 ok:SOk S
 st:S.step≤3
 nn:S.inn≤3
 lb:S.labels.length≤(codeP S).length∨S.inn=0∨S.inn=3
 ne:S.inn=1→S.p.funcs ≠ []
theorem width_keep {S S':PS} {f:Int × Int} {r:List Wd} (h:SIv S) (hn:S.inn=0) (hm:widthD S f r = .ok S'):SIv S':=by
 unfold widthD at hm
 simp only [bind,Except.bind,pure,Except.pure] at hm
 cases h1:numberP f 64 r with
 | error e=>rw [h1] at hm;cases hm
 | ok p =>
  rw [h1] at hm;dsimp only at hm
  cases h2:endP p.2 with
  | error e=>rw [h2] at hm;cases hm
  | ok u=>rw [h2] at hm;injection hm with hm;subst hm;exact ⟨⟨h.ok.ch,h.ok.ar,h.ok.fu,h.ok.lb,h.ok.st,h.ok.mn,h.ok.cd⟩,(show 1≤3 by decide),h.nn,.inr (.inl hn),fun e=>absurd (hn.symm.trans e) (by decide)⟩
theorem chan_keep {S S':PS} {f:Int × Int} {r:List Wd} (h:SIv S) (hn:S.inn=0) (hm:chanD S f r = .ok S'):SIv S':=by
 by_cases hl:S.p.chans.length<32
 ·rw [chan_eq hl] at hm
  unfold chan2 at hm
  cases h1:freshP f S.p.chans r with
  | error e=>rw [h1] at hm;cases hm
  | ok p =>
   rw [h1] at hm;dsimp only at hm
   cases h2:endP p.2 with
   | error e=>rw [h2] at hm;cases hm
   | ok u=>rw [h2] at hm;injection hm with hm;subst hm;exact ⟨⟨by show (S.p.chans++[p.1]).length≤32;rw [List.length_append];exact hl,h.ok.ar,h.ok.fu,h.ok.lb,h.ok.st,h.ok.mn,h.ok.cd⟩,h.st,h.nn,.inr (.inl hn),fun e=>absurd (hn.symm.trans e) (by decide)⟩
 ·rw [chan_long hl] at hm;cases hm
theorem main_keep {S S':PS} {r:List Wd} (h:SIv S) (hm:mainD S r = .ok S'):SIv S':=by
 unfold mainD at hm
 simp only [bind,Except.bind,pure,Except.pure] at hm
 cases h2:endP r with
 | error e=>rw [h2] at hm;cases hm
 | ok u=>rw [h2] at hm;injection hm with hm;subst hm;exact ⟨⟨h.ok.ch,h.ok.ar,h.ok.fu,Nat.zero_le _,h.ok.st,h.ok.mn,h.ok.cd⟩,h.st,(show 2≤3 by decide),.inl (Nat.zero_le _),fun e=>absurd (show 2=1 from e) (by decide)⟩
theorem array_keep {S S':PS} {f:Int × Int} {r:List Wd} (h:SIv S) (hn:S.inn=0) (hm:arrayD S f r = .ok S'):SIv S':=by
 by_cases hl:S.p.arrays.length<32
 ·rw [array_eq hl] at hm
  cases h1:freshP f (anamesP S.p) r with
  | error e=>rw [h1] at hm;cases hm
  | ok p =>
   rw [h1] at hm;dsimp only at hm
   unfold array3 at hm
   cases h2:numberP f 64 p.2 with
   | error e=>rw [h2] at hm;cases hm
   | ok p2 =>
    rw [h2] at hm;dsimp only at hm
    cases h3:endP p2.2 with
    | error e=>rw [h3] at hm;cases hm
    | ok u=>rw [h3] at hm;injection hm with hm;subst hm;exact ⟨⟨h.ok.ch,by show (S.p.arrays++[(⟨p.1,(p2.1:Int)⟩:Ar)]).length≤32;rw [List.length_append];exact hl,h.ok.fu,h.ok.lb,h.ok.st,h.ok.mn,h.ok.cd⟩,(show 2≤3 by decide),h.nn,.inr (.inl hn),fun e=>absurd (hn.symm.trans e) (by decide)⟩
 ·rw [array_long hl] at hm;cases hm
theorem params_len {f:Int × Int}:∀ (r:List Wd) (l l':List Bs),l.length≤32→paramsP f l r = .ok l'→l'.length≤32
 | [],l,l',hl,hm=>by rw [params_end] at hm;injection hm with hm;subst hm;exact hl
 | x :: r,l,l',hl,hm=>by
  by_cases h:l.length<32
  ·cases ho:freshP f l (x :: r) with
   | error e=>rw [params_err l h ho] at hm;cases hm
   | ok p =>
    obtain ⟨h1,h2⟩:=params_ok l h (show freshP f l (x :: r) = .ok (p.1,p.2) from ho)
    rw [h1,h2] at hm
    exact params_len r (l++[p.1]) l' (by rw [List.length_append];exact h) hm
  ·rw [params_long l h] at hm;cases hm
theorem func_keep {S S':PS} {f:Int × Int} {r:List Wd} (h:SIv S) (hm:funcD S f r = .ok S'):SIv S':=by
 by_cases hl:S.p.funcs.length<32
 ·rw [func_eq hl] at hm
  unfold func2 at hm
  cases h1:freshP f (S.p.funcs.map Fu.nm) r with
  | error e=>rw [h1] at hm;cases hm
  | ok p =>
   rw [h1] at hm;dsimp only at hm
   unfold func3 at hm
   cases h2:paramsP f [] p.2 with
   | error e=>rw [h2] at hm;cases hm
   | ok l =>
    rw [h2] at hm;injection hm with hm;subst hm
    refine ⟨⟨h.ok.ch,h.ok.ar,by show (S.p.funcs++[(⟨p.1,l,[],f⟩:Fu)]).length≤32;rw [List.length_append];exact hl,Nat.zero_le _,h.ok.st,h.ok.mn,fun g hg=>?_⟩,(show 3≤3 by decide),(show 1≤3 by decide),.inl (Nat.zero_le _),fun _=>by simp⟩
    rcases List.mem_append.1 hg with hg | hg
    ·exact h.ok.cd g hg
    ·rw [List.mem_singleton] at hg;subst hg;exact ⟨Nat.zero_le _,params_len _ _ _ (Nat.zero_le _) h2⟩
 ·rw [func_long hl] at hm;cases hm
theorem declare_keep {S S':PS} {c:Wd} {r:List Wd} (h:SIv S) (hn:S.inn=0) (hm:declareP S c r = .ok S'):SIv S':=by
 rw [declareP_eq] at hm
 split at hm
 ·exact width_keep h hn hm
 split at hm
 ·exact chan_keep h hn hm
 split at hm
 ·exact array_keep h hn hm
 split at hm
 ·exact func_keep h hm
 split at hm
 ·exact main_keep h hm
 ·cases hm
theorem site_len {f:Int × Int} {sites:List Bs} {ws:List Wd} {p:Bs × List Bs × List Wd} (h:siteP f sites ws = .ok p) (hl:sites.length≤32):p.2.1.length≤32:=by
 unfold siteP at h
 simp only [bind,Except.bind,pure,Except.pure] at h
 cases h1:nextP f ws with
 | error e=>rw [h1] at h;cases h
 | ok a =>
  rw [h1] at h;dsimp only at h
  cases h2:needM (sites.contains a.1.1 || decide (sites.length<32)) (wpos a.1) 5 with
  | error e=>rw [h2] at h;cases h
  | ok u =>
   rw [h2] at h;dsimp only at h
   cases h3:needM (namedB a.1.1) (wpos a.1) 4 with
   | error e=>rw [h3] at h;cases h
   | ok u =>
    rw [h3] at h;injection h with h;subst h
    dsimp only
    split
    ·exact hl
    ·rename_i hc
     have hlt:sites.length<32:=by
      unfold needM at h2
      by_cases hd:sites.length<32
      ·exact hd
      ·rw [if_neg (by simp at hc ⊢;exact ⟨hc,by omega⟩)] at h2;cases h2
     rw [List.length_append];exact hlt
theorem assign_len {S:PS} {f:Int × Int} {dst:Bs} {ws:List Wd} {p:In × List Bs × List Wd} (h:assignP S f dst ws = .ok p) (hl:S.sites.length≤32):p.2.1.length≤32:=by
 cases h1:nextP f ws with
 | error e=>rw [assignP_e1 h1] at h;cases h
 | ok a =>
  by_cases h2:a.1.1=[61]
  ·cases h3:nextP f a.2 with
   | error e=>rw [assignP_e3 (a:=a.1) (r:=a.2) h1 h2 h3] at h;cases h
   | ok v =>
    rw [assignP_eq (a:=a.1) (r:=a.2) (v:=v.1) (q:=v.2) h1 h2 h3] at h
    unfold assign2 at h
    split at h
    ·unfold loadA at h;simp only [bind,Except.bind,pure,Except.pure] at h
     cases h4:knownP f (anamesP S.p) v.2 with
     | error e=>rw [h4] at h;cases h
     | ok b=>rw [h4] at h;dsimp only at h;cases h5:operandsP f 1 b.2 with
      | error e=>rw [h5] at h;cases h
      | ok c=>rw [h5] at h;injection h with h;subst h;exact hl
    split at h
    ·unfold releaseA at h;simp only [bind,Except.bind,pure,Except.pure] at h
     cases h4:siteP f S.sites v.2 with
     | error e=>rw [h4] at h;cases h
     | ok b=>rw [h4] at h;dsimp only at h;cases h5:operandsP f 1 b.2.2 with
      | error e=>rw [h5] at h;cases h
      | ok c=>rw [h5] at h;injection h with h;subst h;exact site_len h4 hl
    split at h
    ·unfold callA at h;simp only [bind,Except.bind,pure,Except.pure] at h
     cases h4:nameP f v.2 with
     | error e=>rw [h4] at h;cases h
     | ok b=>rw [h4] at h;dsimp only at h;cases h5:restP f 0 b.2 with
      | error e=>rw [h5] at h;cases h
      | ok c=>rw [h5] at h;injection h with h;subst h;exact hl
    split at h
    ·unfold opA at h;simp only [bind,Except.bind,pure,Except.pure] at h
     cases h5:operandsP f (arityM (opL.idxOf v.1.1+2)) v.2 with
     | error e=>rw [h5] at h;cases h
     | ok c=>rw [h5] at h;injection h with h;subst h;exact hl
    ·unfold copyA at h;simp only [bind,Except.bind,pure,Except.pure] at h
     cases h5:operandsP f 1 a.2 with
     | error e=>rw [h5] at h;cases h
     | ok c=>rw [h5] at h;injection h with h;subst h;exact hl
  ·rw [assignP_e2 (a:=a.1) (r:=a.2) h1 h2] at h;cases h
theorem liftI_len {S:PS} {m:PE (In × List Wd)} {p:In × List Bs × List Bs × List Wd} (h:liftI S m = .ok p):p.2.1=S.labels∧p.2.2.1=S.sites:=by
 cases m with
 | error e=>cases h
 | ok a=>injection h with h;subst h;exact ⟨rfl,rfl⟩
theorem instr_len {S:PS} {f:Int × Int} {c:Wd} {r:List Wd} {p:In × List Bs × List Bs × List Wd} (h:instrP S f c r = .ok p) (hl:S.sites.length≤32):p.2.1.length≤S.labels.length+1∧p.2.2.1.length≤32:=by
 by_cases h0:c.1=kStore
 ·rw [instr_kStore h0] at h;obtain ⟨e1,e2⟩:=liftI_len h;rw [e1,e2];exact ⟨Nat.le_succ _,hl⟩
 by_cases h1:c.1=wkIn
 ·rw [instr_wkIn h1] at h;obtain ⟨e1,e2⟩:=liftI_len h;rw [e1,e2];exact ⟨Nat.le_succ _,hl⟩
 by_cases h2:c.1=kOut
 ·rw [instr_kOut h2] at h;obtain ⟨e1,e2⟩:=liftI_len h;rw [e1,e2];exact ⟨Nat.le_succ _,hl⟩
 by_cases h3:c.1=kJump
 ·rw [instr_kJump h3] at h;obtain ⟨e1,e2⟩:=liftI_len h;rw [e1,e2];exact ⟨Nat.le_succ _,hl⟩
 by_cases h4:c.1=kIf
 ·rw [instr_kIf h4] at h;obtain ⟨e1,e2⟩:=liftI_len h;rw [e1,e2];exact ⟨Nat.le_succ _,hl⟩
 by_cases h5:c.1=kHalt
 ·rw [instr_kHalt h5] at h;obtain ⟨e1,e2⟩:=liftI_len h;rw [e1,e2];exact ⟨Nat.le_succ _,hl⟩
 by_cases h6:c.1=kRet
 ·rw [instr_kRet h6] at h;obtain ⟨e1,e2⟩:=liftI_len h;rw [e1,e2];exact ⟨Nat.le_succ _,hl⟩
 cases hlp:labelP c.1 with
 | some s =>
  rw [instr_label h0 h1 h2 h3 h4 h5 h6 hlp] at h
  split at h
  ·cases h
  ·injection h with h;subst h;exact ⟨by rw [List.length_append];exact Nat.le_refl _,hl⟩
 | none =>
  rw [instr_assign h0 h1 h2 h3 h4 h5 h6 hlp] at h
  split at h
  ·cases ha:assignP S f c.1 r with
   | error e=>rw [ha] at h;cases h
   | ok a=>rw [ha] at h;injection h with h;subst h;exact ⟨Nat.le_succ _,assign_len ha hl⟩
  ·cases h
theorem end_keep {S S':PS} {c:Wd} {r:List Wd} (h:SIv S) (hk:c.1=kEnd) (hm:instructP S c r = .ok S'):SIv S':=by
 rw [ins_end hk] at hm
 cases h2:endP r with
 | error e=>rw [h2] at hm;cases hm
 | ok u =>
  rw [h2] at hm;injection hm with hm;subst hm
  refine ⟨⟨h.ok.ch,h.ok.ar,h.ok.fu,h.ok.lb,h.ok.st,h.ok.mn,h.ok.cd⟩,h.st,?_,.inr ?_,fun e=>absurd (show (if S.inn=2 then 3 else 0)=1 from e) ?_⟩
  ·show (if S.inn=2 then 3 else 0)≤3;split <;> decide
  ·show (if S.inn=2 then 3 else 0)=0∨(if S.inn=2 then 3 else 0)=3;split <;> decide
  ·split <;> decide
theorem putCode_1 {S:PS} {gs:List Fu} {f:Fu} {l:List In} (h1:S.inn=1) (hf:S.p.funcs=gs++[f]):putCode S l={ S.p with funcs:=gs++[{ f with code:=l }] }∧codeP S=f.code:=by
 unfold putCode codeP;rw [if_pos h1,if_pos h1,hf];simp
theorem instruct_keep {S S':PS} {c:Wd} {r:List Wd} (h:SIv S) (hin:S.inn=1∨S.inn=2) (hm:instructP S c r = .ok S'):SIv S':=by
 by_cases hk:c.1=kEnd
 ·exact end_keep h hk hm
 by_cases hl:(codeP S).length<1024
 ·rw [ins_eq hk hl] at hm
  cases hi:instrP S (wpos c) c r with
  | error e=>rw [hi] at hm;cases hm
  | ok p =>
   rw [hi] at hm
   unfold ins2 at hm;dsimp only at hm
   obtain ⟨a1,a2⟩:=instr_len hi h.ok.st
   have hlb:S.labels.length≤(codeP S).length:=by rcases h.lb with h | h | h <;> omega
   cases h2:endP p.2.2.2 with
   | error e=>rw [h2] at hm;cases hm
   | ok u =>
    rw [h2] at hm;injection hm with hm;subst hm
    rcases hin with h1 | h1
    ·obtain ⟨gs,f,hf⟩:∃ gs f,S.p.funcs=gs++[f]:=⟨_,_,(List.dropLast_concat_getLast (h.ne h1)).symm⟩
     obtain ⟨e1,e2⟩:=putCode_1 (l:=codeP S++[{ p.1 with pos:=wpos c }]) h1 hf
     have hfu:=h.ok.fu
     have hcd:=h.ok.cd
     rw [hf] at hfu hcd
     rw [e1]
     refine ⟨⟨h.ok.ch,h.ok.ar,by simpa using hfu,(show p.2.1.length≤1024 by omega),a2,h.ok.mn,fun g hg=>?_⟩,h.st,h.nn,.inl ?_,fun _=>by simp⟩
     ·rcases List.mem_append.1 hg with hg | hg
      ·exact hcd g (List.mem_append_left _ hg)
      ·rw [List.mem_singleton] at hg;subst hg
       exact ⟨by show (codeP S++[_]).length≤1024;rw [List.length_append];exact hl,(hcd f (by simp)).2⟩
     ·have e3:=(putCode_1 (S:={ S with p:={ S.p with funcs:=gs++[{ f with code:=codeP S++[{ p.1 with pos:=wpos c }] }] },labels:=p.2.1,sites:=p.2.2.1 }) (l:=[]) h1 rfl).2
      rw [e3]
      show p.2.1.length≤(codeP S++[_]).length
      rw [List.length_append]
      exact Nat.le_trans a1 (Nat.succ_le_succ hlb)
    ·have e1:putCode S (codeP S++[{ p.1 with pos:=wpos c }])={ S.p with main:=codeP S++[{ p.1 with pos:=wpos c }] }:=by unfold putCode;rw [if_neg (by omega)]
     rw [e1]
     refine ⟨⟨h.ok.ch,h.ok.ar,h.ok.fu,(show p.2.1.length≤1024 by omega),a2,by show (codeP S++[_]).length≤1024;rw [List.length_append];exact hl,h.ok.cd⟩,h.st,h.nn,.inl ?_,fun e=>absurd (h1.symm.trans e) (by decide)⟩
     show p.2.1.length≤List.length (if S.inn=1 then _ else codeP S++[_])
     rw [if_neg (by omega),List.length_append];exact Nat.le_trans a1 (Nat.succ_le_succ hlb)
 ·rw [ins_long hk hl] at hm;cases hm
theorem line_keep {S S':PS} {l:List Wd} (h:SIv S) (hm:lineP S l = .ok S'):SIv S':=by
 cases l with
 | nil=>cases hm
 | cons x r =>
  rw [lineP_kons] at hm
  split at hm
  ·exact declare_keep h (by assumption) hm
  split at hm
  ·cases hm
  ·exact instruct_keep h (by have:=h.nn;omega) hm
end Go.Proofs.YtbijamcoibonkaaDoor
namespace Go.Proofs.YtbijamcoibonkaaDoor
set_option linter.unusedSimpArgs false
set_option linter.unusedVariables false
open Go.RowKit Go.Shelf
end Go.Proofs.YtbijamcoibonkaaDoor
namespace Go.Proofs.YtbijamcoibonkaaDoor
set_option linter.unusedSimpArgs false
set_option linter.unusedVariables false
open Go.RowKit Go.Shelf
attribute [local go_sem] Oper.semAt_some
theorem NmS.new (w:World):NmS (w.alloc (.map #[] 0)) w.heap.size []:=⟨#[],0,by rw [heap_al,if_pos rfl],rfl⟩
variable {B:Nat} {w0 W W':World} {K:CK} {vl:Value} {rs:List Nat} {S:CS} {b2 b3:Nat}
theorem Off.geB {k:Nat} (h:Off B K vl rs k):B≤k:=h.1
theorem Off.moved {k r:Nat} {vl':Value} (h:Off B K vl rs k) (hk:k<W.heap.size) (hm:Moved W vl vl') (hr:W.heap.size≤r):Off B K vl' (rs++[r]) k:=by
 refine ⟨h.1,h.2.1,h.2.2.1,h.2.2.2.1,h.2.2.2.2.1,h.2.2.2.2.2.1,fun e=>?_,fun e=>?_⟩
 ·rcases hm with e' | ⟨q,e',hq⟩
  ·exact h.2.2.2.2.2.2.1 (e'.symm.trans e)
  ·rw [e'] at e;injection e with e;omega
 ·rcases List.mem_append.1 e with e | e
  ·exact h.2.2.2.2.2.2.2 e
  ·have:=List.mem_singleton.1 e;omega
theorem NmS.off {l:List Bs} {m:Nat} (hn:NmS W m l) (ho:Off B K vl rs m) (hb:But (fun k=>k=K.cb∨k=K.ms∨vl.ownBlock=some k) W W'):NmS W' m l :=
 hn.keep (hb.block m hn.lt fun e=>by
  rcases e with e | e | e
  ·exact ho.2.1 e
  ·exact ho.2.2.2.2.1 e
  ·exact ho.2.2.2.2.2.2.1 e)
variable {fm:Nat} {seen:List Bs}
end Go.Proofs.YtbijamcoibonkaaDoor
