/-
 A part.
-/
import Derived.Test.YtoofbgoeipijcaaGreatDoorVSPnJ
namespace Go.Proofs.YtoofbgoeipijcaaGreatDoor
set_option linter.all false
open Go.RowKit Go.Shelf
attribute [local go_sem] Oper.semAt_some
theorem Pm.words {B b:Nat} {O:Nat->Value} {pw pw':Option Addr} {cw cw':Nat} {ws ws':List Wd} {S:PS} {k:Nat} {w:World} (h:Pm B b O pw' cw' ws' S k w) (hr:RowR (·<b) w pw (wflat ws)):Pm B b O pw cw ws S 0 ((w.setCell ⟨b,5,none⟩ (.slice pw ws.length cw)).setCell ⟨b,6,none⟩ (.int .i64 0)):=by
 have hbn:But (fun i=>i=b) w ((w.setCell ⟨b,5,none⟩ (.slice pw ws.length cw)).setCell ⟨b,6,none⟩ (.int .i64 0)):=((But.refl (fun i=>i=b) _).setC _ (.inl rfl)).setC _ (.inl rfl)
 exact ⟨⟨(h.rd.box.set 5 _).set 6 _,hr.keep fun i hi=>⟨hi,by rw [heap_ot (Nat.ne_of_lt hi),heap_ot (Nat.ne_of_lt hi)]⟩⟩,h.rs.but hbn,h.ge,Nat.zero_le _⟩
theorem lineP_kons {S:PS} {x:Wd} {r:List Wd}:lineP S (x :: r)=if S.inn=0 then declareP S x r else if S.inn=3 then .error (wpos x,4) else instructP S x r:=rfl
set_option maxRecDepth 100000 in
set_option maxHeartbeats 4000000 in
theorem pline_any {B b:Nat} {O:Nat->Value} {pw pw':Option Addr} {cw cw':Nat} {ws ws':List Wd} {S:PS} {k:Nat} {w:World} (hp:Pm B b O pw' cw' ws' S k w) (hr:RowR (·<b) w pw (wflat ws)) (hw:WOk ws) (hok:SOk S) (hst:S.step<=3) (hin:S.inn<=3):Calls Tryz.prog 67 #[.pointer (some ⟨b,0,none⟩),.slice pw ws.length cw] w (InsP B b pw cw ws (lineP S ws) w):=by
 have HW:=hid hw;have HOK:=hid hok;have HST:=hid hst
 have HBB:=hid hp.ge
 have HPN:=hid (show Pm B b O pw cw ws S 0 _ from hp.words (cw:=cw) hr)
 obtain ⟨LW,hLW⟩:∃ n,ws.length=n:=⟨_,rfl⟩
 have c5:=hp.rd.box.at 5 rfl;have f5:=hp.rd.box.fr 5;have c6:=hp.rd.box.at 6 rfl;have f6:=hp.rd.box.fr 6
 obtain ⟨v5,hv5⟩:∃ v,(Value.slice pw' ws'.length cw')=v:=⟨_,rfl⟩
 rw [hLW]
 rw [hLW] at HPN
 have HLW:=hid hLW
 clear hp hr hw hok hst hLW
 have hc:S.inn=0\/S.inn=3\/(S.inn=1\/S.inn=2):=by omega
 have HC:=hid hc
 clear hc hin hv5 v5
 go_enter Tryz.func67,Tryz.ntmps67
 go_upto_region 1 with fail
 generalize hw:World.setCell _ _ _=w1 at HPN ⊢
 have HB1:=hid (show Below B w w1 from by rw [<- hw];exact ((Below.refl _ _).setCell (p:=⟨b,5,none⟩) HBB.out _).setCell (p:=⟨b,6,none⟩) HBB.out _)
 clear hw c5 f5 c6 f6
 have c11:=HPN.rd.box.at 11 rfl
 obtain ⟨x,r,hws⟩:∃ x r,ws=x :: r:=by
  cases ws with
  | nil=>exact absurd HW.out.pos (by simp)
  | cons x r=>exact ⟨x,r,rfl⟩
 have HWS:=hid hws
 clear hws
 rcases HC.out with h | h | h
 ·have HI:=hid h
  have g0:((S.inn:Int) == 0)=true:=by rw [h];rfl
  have HM:=hid (show lineP S ws=declareP S x r from by rw [HWS.out];rw [lineP_kons,if_pos h])
  clear h
  go_wp2_with (go_at_call 109;(with_reducible refine (pdeclare_any HWS.out HPN.out HW.out HOK.out HI.out HST.out).mono ?_);rintro e w2 ⟨hb,⟨f1,hm,rfl⟩ | ⟨S',O',k',hm,rfl,hp'⟩⟩;(focus (exact ⟨rfl,HB1.out.trans hb,.inl ⟨f1,by rw [HM.out];exact hm,rfl⟩⟩));have HB2:=hid (HB1.out.trans hb);have HM2:=hid hm;have HP2:=hid hp';clear hb hm hp' c11)
  first | go_end0 | refine bodyPost_ret (results_none rfl _ _ _) rfl ?_
  exact ⟨HB2.out,.inr ⟨S',O',k',by rw [HM.out];exact HM2.out,rfl,HP2.out⟩⟩
 ·have HI:=hid h
  have g0:((S.inn:Int) == 0)=false:=by rw [h];rfl
  have g1:((S.inn:Int) == 3)=true:=by rw [h];rfl
  have HM:=hid (show lineP S ws=.error (wpos x,4) from by rw [HWS.out];rw [lineP_kons,if_neg (by omega),if_pos h])
  clear h
  obtain ⟨wb,off,hpw,hwb,hne,hc⟩:=HPN.rd.at HW.pos
  subst hpw
  have h0:=hc 0 HW.pos
  rw [show ws[0]'HW.pos=x from by simp [HWS.out]] at h0
  obtain ⟨h0,h1,h2⟩:=h0
  have hlw:0<LW:=by rw [<- HLW.out];exact HW.pos
  clear hc
  go_wp2_with (go_at_call 68;(with_reducible refine (pneed_any _ ((x.2.1:Int),(x.2.2:Int)) _ _).mono ?_);rintro e w2 ⟨hb,⟨hc,rfl⟩ | ⟨hc,rfl⟩⟩;(focus (cases hc));exact ⟨rfl,HB1.out.trans (hb.mono HPN.out.size),.inl ⟨_,HM.out,rfl⟩⟩)
 ·have HI:=hid h
  have g0:((S.inn:Int) == 0)=false:=by rw [beq_eq_false_iff_ne];omega
  have g1:((S.inn:Int) == 3)=false:=by rw [beq_eq_false_iff_ne];omega
  have HM:=hid (show lineP S ws=instructP S x r from by rw [HWS.out];rw [lineP_kons,if_neg (by omega),if_neg (by omega)])
  clear h
  go_wp2_with (go_at_call 110;(with_reducible refine (pinstruct_any HWS.out HPN.out HW.out HOK.out HI.out).mono ?_);rintro e w2 ⟨hb,⟨f1,hm,rfl⟩ | ⟨S',O',k',hm,rfl,hp'⟩⟩;(focus (exact ⟨rfl,HB1.out.trans hb,.inl ⟨f1,by rw [HM.out];exact hm,rfl⟩⟩));have HB2:=hid (HB1.out.trans hb);have HM2:=hid hm;have HP2:=hid hp';clear hb hm hp' c11)
  first | go_end0 | refine bodyPost_ret (results_none rfl _ _ _) rfl ?_
  exact ⟨HB2.out,.inr ⟨S',O',k',by rw [HM.out];exact HM2.out,rfl,HP2.out⟩⟩
structure SIv (S:PS):Prop where
 ok:SOk S
 st:S.step<=3
 nn:S.inn<=3
 lb:S.labels.length<=(codeP S).length\/S.inn=0\/S.inn=3
 ne:S.inn=1->S.p.funcs ≠ []
theorem width_keep {S S':PS} {f:Int × Int} {r:List Wd} (h:SIv S) (hn:S.inn=0) (hm:widthD S f r=.ok S'):SIv S':=by
 unfold widthD at hm
 simp only [bind,Except.bind,pure,Except.pure] at hm
 cases h1:numberP f 64 r with
 | error e=>rw [h1] at hm;cases hm
 | ok p =>
  rw [h1] at hm;dsimp only at hm
  cases h2:endP p.2 with
  | error e=>rw [h2] at hm;cases hm
  | ok u=>rw [h2] at hm;injection hm with hm;subst hm;exact ⟨⟨h.ok.ch,h.ok.ar,h.ok.fu,h.ok.lb,h.ok.st,h.ok.mn,h.ok.cd⟩,(show 1<=3 by decide),h.nn,.inr (.inl hn),fun e=>absurd (hn.symm.trans e) (by decide)⟩
theorem chan_keep {S S':PS} {f:Int × Int} {r:List Wd} (h:SIv S) (hn:S.inn=0) (hm:chanD S f r=.ok S'):SIv S':=by
 by_cases hl:S.p.chans.length<32
 ·rw [chan_eq hl] at hm
  unfold chan2 at hm
  cases h1:freshP f S.p.chans r with
  | error e=>rw [h1] at hm;cases hm
  | ok p =>
   rw [h1] at hm;dsimp only at hm
   cases h2:endP p.2 with
   | error e=>rw [h2] at hm;cases hm
   | ok u=>rw [h2] at hm;injection hm with hm;subst hm;exact ⟨⟨by show (S.p.chans++[p.1]).length<=32;rw [List.length_append];exact hl,h.ok.ar,h.ok.fu,h.ok.lb,h.ok.st,h.ok.mn,h.ok.cd⟩,h.st,h.nn,.inr (.inl hn),fun e=>absurd (hn.symm.trans e) (by decide)⟩
 ·rw [chan_long hl] at hm;cases hm
theorem main_keep {S S':PS} {r:List Wd} (h:SIv S) (hm:mainD S r=.ok S'):SIv S':=by
 unfold mainD at hm
 simp only [bind,Except.bind,pure,Except.pure] at hm
 cases h2:endP r with
 | error e=>rw [h2] at hm;cases hm
 | ok u=>rw [h2] at hm;injection hm with hm;subst hm;exact ⟨⟨h.ok.ch,h.ok.ar,h.ok.fu,Nat.zero_le _,h.ok.st,h.ok.mn,h.ok.cd⟩,h.st,(show 2<=3 by decide),.inl (Nat.zero_le _),fun e=>absurd (show 2=1 from e) (by decide)⟩
theorem array_keep {S S':PS} {f:Int × Int} {r:List Wd} (h:SIv S) (hn:S.inn=0) (hm:arrayD S f r=.ok S'):SIv S':=by
 by_cases hl:S.p.arrays.length<32
 ·rw [array_eq hl] at hm
  cases h1:freshP f (anamesP S.p) r with
  | error e=>rw [h1] at hm;cases hm
  | ok p =>
   rw [h1] at hm;dsimp only at hm
   unfold array3 at hm
   cases h2:numberP f 64 p.2 with
   | error e=>rw [h2] at hm;cases hm
   | ok p2 =>
    rw [h2] at hm;dsimp only at hm
    cases h3:endP p2.2 with
    | error e=>rw [h3] at hm;cases hm
    | ok u=>rw [h3] at hm;injection hm with hm;subst hm;exact ⟨⟨h.ok.ch,by show (S.p.arrays++[(⟨p.1,(p2.1:Int)⟩:Ar)]).length<=32;rw [List.length_append];exact hl,h.ok.fu,h.ok.lb,h.ok.st,h.ok.mn,h.ok.cd⟩,(show 2<=3 by decide),h.nn,.inr (.inl hn),fun e=>absurd (hn.symm.trans e) (by decide)⟩
 ·rw [array_long hl] at hm;cases hm
theorem params_len {f:Int × Int}:∀ (r:List Wd) (l l':List Bs),l.length<=32->paramsP f l r=.ok l'->l'.length<=32
 | [],l,l',hl,hm=>by rw [params_end] at hm;injection hm with hm;subst hm;exact hl
 | x :: r,l,l',hl,hm=>by
  by_cases h:l.length<32
  ·cases ho:freshP f l (x :: r) with
   | error e=>rw [params_err l h ho] at hm;cases hm
   | ok p =>
    obtain ⟨h1,h2⟩:=params_ok l h (show freshP f l (x :: r)=.ok (p.1,p.2) from ho)
    rw [h1,h2] at hm
    exact params_len r (l++[p.1]) l' (by rw [List.length_append];exact h) hm
  ·rw [params_long l h] at hm;cases hm
theorem func_keep {S S':PS} {f:Int × Int} {r:List Wd} (h:SIv S) (hm:funcD S f r=.ok S'):SIv S':=by
 by_cases hl:S.p.funcs.length<32
 ·rw [func_eq hl] at hm
  unfold func2 at hm
  cases h1:freshP f (S.p.funcs.map Fu.nm) r with
  | error e=>rw [h1] at hm;cases hm
  | ok p =>
   rw [h1] at hm;dsimp only at hm
   unfold func3 at hm
   cases h2:paramsP f [] p.2 with
   | error e=>rw [h2] at hm;cases hm
   | ok l =>
    rw [h2] at hm;injection hm with hm;subst hm
    refine ⟨⟨h.ok.ch,h.ok.ar,by show (S.p.funcs++[(⟨p.1,l,[],f⟩:Fu)]).length<=32;rw [List.length_append];exact hl,Nat.zero_le _,h.ok.st,h.ok.mn,fun g hg=>?_⟩,(show 3<=3 by decide),(show 1<=3 by decide),.inl (Nat.zero_le _),fun _=>by simp⟩
    rcases List.mem_append.1 hg with hg | hg
    ·exact h.ok.cd g hg
    ·rw [List.mem_singleton] at hg;subst hg;exact ⟨Nat.zero_le _,params_len _ _ _ (Nat.zero_le _) h2⟩
 ·rw [func_long hl] at hm;cases hm
theorem declare_keep {S S':PS} {c:Wd} {r:List Wd} (h:SIv S) (hn:S.inn=0) (hm:declareP S c r=.ok S'):SIv S':=by
 rw [declareP_eq] at hm
 split at hm
 ·exact width_keep h hn hm
 split at hm
 ·exact chan_keep h hn hm
 split at hm
 ·exact array_keep h hn hm
 split at hm
 ·exact func_keep h hm
 split at hm
 ·exact main_keep h hm
 ·cases hm
theorem site_len {f:Int × Int} {sites:List Bs} {ws:List Wd} {p:Bs × List Bs × List Wd} (h:siteP f sites ws=.ok p) (hl:sites.length<=32):p.2.1.length<=32:=by
 unfold siteP at h
 simp only [bind,Except.bind,pure,Except.pure] at h
 cases h1:nextP f ws with
 | error e=>rw [h1] at h;cases h
 | ok a =>
  rw [h1] at h;dsimp only at h
  cases h2:needM (sites.contains a.1.1 || decide (sites.length<32)) (wpos a.1) 5 with
  | error e=>rw [h2] at h;cases h
  | ok u =>
   rw [h2] at h;dsimp only at h
   cases h3:needM (namedB a.1.1) (wpos a.1) 4 with
   | error e=>rw [h3] at h;cases h
   | ok u =>
    rw [h3] at h;injection h with h;subst h
    dsimp only
    split
    ·exact hl
    ·rename_i hc
     have hlt:sites.length<32:=by
      unfold needM at h2
      by_cases hd:sites.length<32
      ·exact hd
      ·rw [if_neg (by simp at hc ⊢;exact ⟨hc,by omega⟩)] at h2;cases h2
     rw [List.length_append];exact hlt
theorem assign_len {S:PS} {f:Int × Int} {dst:Bs} {ws:List Wd} {p:In × List Bs × List Wd} (h:assignP S f dst ws=.ok p) (hl:S.sites.length<=32):p.2.1.length<=32:=by
 cases h1:nextP f ws with
 | error e=>rw [assignP_e1 h1] at h;cases h
 | ok a =>
  by_cases h2:a.1.1=[61]
  ·cases h3:nextP f a.2 with
   | error e=>rw [assignP_e3 (a:=a.1) (r:=a.2) h1 h2 h3] at h;cases h
   | ok v =>
    rw [assignP_eq (a:=a.1) (r:=a.2) (v:=v.1) (q:=v.2) h1 h2 h3] at h
    unfold assign2 at h
    split at h
    ·unfold loadA at h;simp only [bind,Except.bind,pure,Except.pure] at h
     cases h4:knownP f (anamesP S.p) v.2 with
     | error e=>rw [h4] at h;cases h
     | ok b=>rw [h4] at h;dsimp only at h;cases h5:operandsP f 1 b.2 with
      | error e=>rw [h5] at h;cases h
      | ok c=>rw [h5] at h;injection h with h;subst h;exact hl
    split at h
    ·unfold releaseA at h;simp only [bind,Except.bind,pure,Except.pure] at h
     cases h4:siteP f S.sites v.2 with
     | error e=>rw [h4] at h;cases h
     | ok b=>rw [h4] at h;dsimp only at h;cases h5:operandsP f 1 b.2.2 with
      | error e=>rw [h5] at h;cases h
      | ok c=>rw [h5] at h;injection h with h;subst h;exact site_len h4 hl
    split at h
    ·unfold callA at h;simp only [bind,Except.bind,pure,Except.pure] at h
     cases h4:nameP f v.2 with
     | error e=>rw [h4] at h;cases h
     | ok b=>rw [h4] at h;dsimp only at h;cases h5:restP f 0 b.2 with
      | error e=>rw [h5] at h;cases h
      | ok c=>rw [h5] at h;injection h with h;subst h;exact hl
    split at h
    ·unfold opA at h;simp only [bind,Except.bind,pure,Except.pure] at h
     cases h5:operandsP f (arityM (opL.idxOf v.1.1+2)) v.2 with
     | error e=>rw [h5] at h;cases h
     | ok c=>rw [h5] at h;injection h with h;subst h;exact hl
    ·unfold copyA at h;simp only [bind,Except.bind,pure,Except.pure] at h
     cases h5:operandsP f 1 a.2 with
     | error e=>rw [h5] at h;cases h
     | ok c=>rw [h5] at h;injection h with h;subst h;exact hl
  ·rw [assignP_e2 (a:=a.1) (r:=a.2) h1 h2] at h;cases h
theorem liftI_len {S:PS} {m:PE (In × List Wd)} {p:In × List Bs × List Bs × List Wd} (h:liftI S m=.ok p):p.2.1=S.labels/\p.2.2.1=S.sites:=by
 cases m with
 | error e=>cases h
 | ok a=>injection h with h;subst h;exact ⟨rfl,rfl⟩
theorem instr_len {S:PS} {f:Int × Int} {c:Wd} {r:List Wd} {p:In × List Bs × List Bs × List Wd} (h:instrP S f c r=.ok p) (hl:S.sites.length<=32):p.2.1.length<=S.labels.length+1/\p.2.2.1.length<=32:=by
 by_cases h0:c.1=kStore
 ·rw [instr_kStore h0] at h;obtain ⟨e1,e2⟩:=liftI_len h;rw [e1,e2];exact ⟨Nat.le_succ _,hl⟩
 by_cases h1:c.1=wkIn
 ·rw [instr_wkIn h1] at h;obtain ⟨e1,e2⟩:=liftI_len h;rw [e1,e2];exact ⟨Nat.le_succ _,hl⟩
 by_cases h2:c.1=kOut
 ·rw [instr_kOut h2] at h;obtain ⟨e1,e2⟩:=liftI_len h;rw [e1,e2];exact ⟨Nat.le_succ _,hl⟩
 by_cases h3:c.1=kJump
 ·rw [instr_kJump h3] at h;obtain ⟨e1,e2⟩:=liftI_len h;rw [e1,e2];exact ⟨Nat.le_succ _,hl⟩
 by_cases h4:c.1=kIf
 ·rw [instr_kIf h4] at h;obtain ⟨e1,e2⟩:=liftI_len h;rw [e1,e2];exact ⟨Nat.le_succ _,hl⟩
 by_cases h5:c.1=kHalt
 ·rw [instr_kHalt h5] at h;obtain ⟨e1,e2⟩:=liftI_len h;rw [e1,e2];exact ⟨Nat.le_succ _,hl⟩
 by_cases h6:c.1=kRet
 ·rw [instr_kRet h6] at h;obtain ⟨e1,e2⟩:=liftI_len h;rw [e1,e2];exact ⟨Nat.le_succ _,hl⟩
 cases hlp:labelP c.1 with
 | some s =>
  rw [instr_label h0 h1 h2 h3 h4 h5 h6 hlp] at h
  split at h
  ·cases h
  ·injection h with h;subst h;exact ⟨by rw [List.length_append];exact Nat.le_refl _,hl⟩
 | none =>
  rw [instr_assign h0 h1 h2 h3 h4 h5 h6 hlp] at h
  split at h
  ·cases ha:assignP S f c.1 r with
   | error e=>rw [ha] at h;cases h
   | ok a=>rw [ha] at h;injection h with h;subst h;exact ⟨Nat.le_succ _,assign_len ha hl⟩
  ·cases h
theorem end_keep {S S':PS} {c:Wd} {r:List Wd} (h:SIv S) (hk:c.1=kEnd) (hm:instructP S c r=.ok S'):SIv S':=by
 rw [ins_end hk] at hm
 cases h2:endP r with
 | error e=>rw [h2] at hm;cases hm
 | ok u =>
  rw [h2] at hm;injection hm with hm;subst hm
  refine ⟨⟨h.ok.ch,h.ok.ar,h.ok.fu,h.ok.lb,h.ok.st,h.ok.mn,h.ok.cd⟩,h.st,?_,.inr ?_,fun e=>absurd (show (if S.inn=2 then 3 else 0)=1 from e) ?_⟩
  ·show (if S.inn=2 then 3 else 0)<=3;split <;> decide
  ·show (if S.inn=2 then 3 else 0)=0\/(if S.inn=2 then 3 else 0)=3;split <;> decide
  ·split <;> decide
theorem putCode_1 {S:PS} {gs:List Fu} {f:Fu} {l:List In} (h1:S.inn=1) (hf:S.p.funcs=gs++[f]):putCode S l={ S.p with funcs:=gs++[{ f with code:=l }] }/\codeP S=f.code:=by
 unfold putCode codeP;rw [if_pos h1,if_pos h1,hf];simp
theorem instruct_keep {S S':PS} {c:Wd} {r:List Wd} (h:SIv S) (hin:S.inn=1\/S.inn=2) (hm:instructP S c r=.ok S'):SIv S':=by
 by_cases hk:c.1=kEnd
 ·exact end_keep h hk hm
 by_cases hl:(codeP S).length<1024
 ·rw [ins_eq hk hl] at hm
  cases hi:instrP S (wpos c) c r with
  | error e=>rw [hi] at hm;cases hm
  | ok p =>
   rw [hi] at hm
   unfold ins2 at hm;dsimp only at hm
   obtain ⟨a1,a2⟩:=instr_len hi h.ok.st
   have hlb:S.labels.length<=(codeP S).length:=by rcases h.lb with h | h | h <;> omega
   cases h2:endP p.2.2.2 with
   | error e=>rw [h2] at hm;cases hm
   | ok u =>
    rw [h2] at hm;injection hm with hm;subst hm
    rcases hin with h1 | h1
    ·obtain ⟨gs,f,hf⟩:∃ gs f,S.p.funcs=gs++[f]:=⟨_,_,(List.dropLast_concat_getLast (h.ne h1)).symm⟩
     obtain ⟨e1,e2⟩:=putCode_1 (l:=codeP S++[{ p.1 with pos:=wpos c }]) h1 hf
     have hfu:=h.ok.fu
     have hcd:=h.ok.cd
     rw [hf] at hfu hcd
     rw [e1]
     refine ⟨⟨h.ok.ch,h.ok.ar,by simpa using hfu,(show p.2.1.length<=1024 by omega),a2,h.ok.mn,fun g hg=>?_⟩,h.st,h.nn,.inl ?_,fun _=>by simp⟩
     ·rcases List.mem_append.1 hg with hg | hg
      ·exact hcd g (List.mem_append_left _ hg)
      ·rw [List.mem_singleton] at hg;subst hg
       exact ⟨by show (codeP S++[_]).length<=1024;rw [List.length_append];exact hl,(hcd f (by simp)).2⟩
     ·have e3:=(putCode_1 (S:={ S with p:={ S.p with funcs:=gs++[{ f with code:=codeP S++[{ p.1 with pos:=wpos c }] }] },labels:=p.2.1,sites:=p.2.2.1 }) (l:=[]) h1 rfl).2
      rw [e3]
      show p.2.1.length<=(codeP S++[_]).length
      rw [List.length_append]
      exact Nat.le_trans a1 (Nat.succ_le_succ hlb)
    ·have e1:putCode S (codeP S++[{ p.1 with pos:=wpos c }])={ S.p with main:=codeP S++[{ p.1 with pos:=wpos c }] }:=by unfold putCode;rw [if_neg (by omega)]
     rw [e1]
     refine ⟨⟨h.ok.ch,h.ok.ar,h.ok.fu,(show p.2.1.length<=1024 by omega),a2,by show (codeP S++[_]).length<=1024;rw [List.length_append];exact hl,h.ok.cd⟩,h.st,h.nn,.inl ?_,fun e=>absurd (h1.symm.trans e) (by decide)⟩
     show p.2.1.length<=List.length (if S.inn=1 then _ else codeP S++[_])
     rw [if_neg (by omega),List.length_append];exact Nat.le_trans a1 (Nat.succ_le_succ hlb)
 ·rw [ins_long hk hl] at hm;cases hm
theorem line_keep {S S':PS} {l:List Wd} (h:SIv S) (hm:lineP S l=.ok S'):SIv S':=by
 cases l with
 | nil=>cases hm
 | cons x r =>
  rw [lineP_kons] at hm
  split at hm
  ·exact declare_keep h (by assumption) hm
  split at hm
  ·cases hm
  ·exact instruct_keep h (by have:=h.nn;omega) hm
end Go.Proofs.YtoofbgoeipijcaaGreatDoor
