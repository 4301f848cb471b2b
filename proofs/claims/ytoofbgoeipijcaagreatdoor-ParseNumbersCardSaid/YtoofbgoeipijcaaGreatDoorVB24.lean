/-
 A part.
-/
import Derived.Test.YtoofbgoeipijcaaGreatDoorVSPnG
namespace Go.Proofs.YtoofbgoeipijcaaGreatDoor
set_option linter.all false
open Go.RowKit Go.Shelf
attribute [local go_sem] Oper.semAt_some
def kFuX:EK (Fu × Bool) where
 n:=5
 pos:=by omega
 E R w cs x:=kFu.E R w cs x.1/\(x.2=true->cs[2]?=some (.slice none 0 0))
 len h:=kFu.len h.1
 one h:=kFu.one h.1
 keep h hf:=⟨kFu.keep h.1 hf,h.2⟩
theorem info_fuP:(Tryz.prog.info? 74).map (fun i=>(i.zero,i.size,i.bytes))=some (some (.agg #[.string ⟨#[]⟩,.slice none 0 0,.slice none 0 0,.int .i64 0,.int .i64 0]),kFuX.n,80):=by kernel_rfl
theorem FuR.slc {b inn:Nat} {O:Nat->Value} {w:World} {fs:List Fu} (h:FuR b O w inn fs):∃ p c,O 3=.slice p fs.length c:=let ⟨_,h1,_⟩:=h;own_sliceG h1
theorem FuR.marked {b inn:Nat} {O:Nat->Value} {w:World} {fs:List Fu} (h:FuR b O w inn fs) (hi:inn ≠ 1):GR kFuX (Fin' b O w) b 74 w (O 3) (fs.map fun f=>(f,false)):=by
 obtain ⟨css,h1,h2⟩:=h
 rcases h2 with ⟨e,_⟩ | ⟨_,_,g1⟩
 ·exact absurd e hi
 ·refine ⟨css,⟨by simp [g1.1],fun i hl hl'=>?_⟩,by rw [List.length_map];exact h1⟩
  rw [List.getElem_map]
  exact ⟨g1.2 i (by simpa using hl) hl',fun e=>by cases e⟩
theorem GR.unmark {R:Nat->Prop} {b e:Nat} {w:World} {v:Value} {fs:List Fu} {f:Fu} (h:GR kFuX R b e w v ((fs.map fun f=>(f,false))++[(f,true)])) :
  ∃ cs0 pv,w.ownsRow b e 5 v (fs++[f]).length (cs0++[[.string ⟨f.nm.toArray⟩,pv,.slice none 0 0,.int .i64 f.pos.1,.int .i64 f.pos.2]]).flatten/\Each kFu R w cs0 fs/\SlG kStr R w pv f.params:=by
 obtain ⟨css,h1,h2⟩:=h
 have hl:css.length=fs.length+1:=by rw [h1.1];simp
 have hlt:fs.length<css.length:=by omega
 have hE:=h1.2 fs.length (by simp) hlt
 rw [List.getElem_append_right (by simp)] at hE
 simp only [List.length_map,Nat.sub_self,List.getElem_cons_zero] at hE
 obtain ⟨⟨pv,cv,hcs,hp,hc⟩,ht⟩:=hE
 have hn:=ht rfl
 rw [hcs] at hn
 obtain rfl:cv=.slice none 0 0:=by simpa using hn
 refine ⟨css.take fs.length,pv,?_,⟨by simp [hl],fun i hi hi'=>?_⟩,hp⟩
 ·rw [<- hcs]
  have:css.take fs.length++[css[fs.length]]=css:=by
   rw [List.take_append_getElem,List.take_of_length_le (by omega)]
  rw [this]
  have h3:=h2
  rw [show ((fs.map fun f=>(f,false))++[(f,true)]).length=(fs++[f]).length by simp] at h3
  exact h3
 ·rw [List.getElem_take]
  have h4:=h1.2 i (by simp;omega) (by omega)
  rw [List.getElem_append_left (by simpa using hi),List.getElem_map] at h4
  exact h4.1
theorem PmJ.open3 {B b:Nat} {O:Nat->Value} {pw:Option Addr} {cw:Nat} {ws:List Wd} {S:PS} {k:Nat} {w w8 w9:World} {an fn:List Bs} {v':Value} {f:Fu} {R:Nat->Prop} (h:PmJ B b O pw cw ws S an fn k w) (hin:S.inn ≠ 1) (hb:Below w.heap.size w w8) (hg:w8.grownBy w9 (O 3).ownBlock) (hm:Moved w8 (O 3) v')
  (hR:∀ i,R i->Fin' b O w8 i) (hgr:GR kFuX R b 74 w9 v' ((S.p.funcs.map fun f=>(f,false))++[(f,true)])) (hc:f.code=[]) (h1':an=anamesP S.p) (h2':fn=S.p.funcs.map Fu.nm++[f.nm]) :
  Pm B b (upd O 3 v') pw cw ws { S with p:={ S.p with funcs:=S.p.funcs++[f] },step:=3,inn:=1 } k (((w9.setCell ⟨b,3,none⟩ v').setCell ⟨b,12,none⟩ (.int .i64 3)).setCell ⟨b,11,none⟩ (.int .i64 1)):=by
 obtain ⟨h1,h2,h3,h4⟩:=h.grow (c:=3) hb hg hm (fun i hi=>(hgr.lt i hi).2)
 have h20:O 20=.slice none 0 0:=by
  obtain ⟨css,_,h⟩:=h.fu
  rcases h with ⟨e,_⟩ | ⟨_,e,_⟩
  ·exact absurd e hin
  ·exact e
 have hne:∀ i,v'.ownBlock=some i->i ≠ b:=fun i hi e=>by
  have:=h2.lt 3 i (by rw [upd_eq];exact hi);omega
 have hfu:FuR b (upd O 3 v') (w9.setCell ⟨b,3,none⟩ v') 1 (S.p.funcs++[f]):=by
  obtain ⟨cs0,pv,g1,g2,g3⟩:=hgr.unmark
  have hF:∀ i,R i->Fin' b (upd O 3 v') (w9.setCell ⟨b,3,none⟩ v') i/\(w9.setCell ⟨b,3,none⟩ v').heap[i]?=w9.heap[i]?:=fun i hi=>by
   have hj:=(hR i hi).moved hm hg.size
   exact ⟨hj.size (by simp only [World.size_setCell];exact Nat.le_refl _),heap_ot (by have:=hj.2.1;omega) _⟩
  refine ⟨cs0++[[.string ⟨f.nm.toArray⟩,pv,.slice none 0 0,.int .i64 f.pos.1,.int .i64 f.pos.2]],?_,.inl ⟨rfl,cs0,S.p.funcs,f,pv,rfl,by rw [upd_ne O v' (by decide),h20],g2.keep hF,g3.keep hF,?_⟩⟩
  ·rw [upd_eq];exact owns_keepG g1 fun j hj=>heap_ot (hne j hj) _
  ·rw [upd_ne O v' (by decide),h20,hc];exact GR.nil _ _ _ _ _
 have hps:PsR b (w9.setCell ⟨b,3,none⟩ v') (upd O 3 v') { S with p:={ S.p with funcs:=S.p.funcs++[f] },step:=3,inn:=1 }:=by
  refine ⟨h2,h.ch.stay h.ow h1 h3 (by decide),h.ar.stay h.ow h1 h3 (by decide),hfu,h.mn.stay h.ow h1 h3 (by decide),?_,?_,h.lb.stay h.ow h1 h3 (by decide),h.st.stay h.ow h1 h3 (by decide)⟩
  ·have:=h.an.stay h.ow h1 h3 (by decide);rw [h1'] at this;exact this
  ·have:=h.fn.stay h.ow h1 h3 (by decide);rw [h2'] at this;simpa using this
 have hbn:But (fun i=>i=b) (w9.setCell ⟨b,3,none⟩ v') (((w9.setCell ⟨b,3,none⟩ v').setCell ⟨b,12,none⟩ (.int .i64 3)).setCell ⟨b,11,none⟩ (.int .i64 1)):=((But.refl (fun i=>i=b) _).setC _ (.inl rfl)).setC _ (.inl rfl)
 have hbx:=((h.rd.box.bel hb).keep (hg.block b (Nat.lt_of_lt_of_le h.lt hb.size) fun e=>h.own 3 e.symm)).set 3 v'
 exact ⟨⟨(hbx.set 12 _).set 11 _,h4.keep fun i hi=>⟨hi,by rw [heap_ot (Nat.ne_of_lt hi),heap_ot (Nat.ne_of_lt hi)]⟩⟩,hps.but hbn,h.ge,h.le⟩
def func3 (S:PS) (f:Int × Int) (s:Bs):PE (List Bs)->PE PS
 | .error e => .error e
 | .ok l => .ok { S with p:={ S.p with funcs:=S.p.funcs++[⟨s,l,[],f⟩] },step:=3,inn:=1,labels:=[] }
def func2 (S:PS) (f:Int × Int):PE (Bs × List Wd)->PE PS
 | .error e => .error e
 | .ok (s,q)=>func3 S f s (paramsP f [] q)
theorem func_eq {S:PS} {f:Int × Int} {r:List Wd} (h:S.p.funcs.length<32):funcD S f r=func2 S f (freshP f (S.p.funcs.map Fu.nm) r):=by
 unfold funcD func2 func3;simp only [needM,decide_eq_true h,if_true,bind,Except.bind]
 cases freshP f (S.p.funcs.map Fu.nm) r with
 | error e=>rfl
 | ok p=>dsimp only;cases paramsP f [] p.2 <;> rfl
theorem fresh_one {f:Int × Int} {had:List Bs} {x:Wd} {r:List Wd}:freshP f had (x :: r)=match freshP f had [x] with | .error e => .error e | .ok p => .ok (p.1,r):=by
 unfold freshP nameP nextP
 simp only [bind,Except.bind,pure,Except.pure]
 cases needM (namedB x.1) (wpos x) 4 with
 | error e=>rfl
 | ok u =>
  dsimp only
  cases needM (!had.contains x.1) (wpos x) 8 <;> rfl
theorem params_long {f:Int × Int} {x:Wd} {r:List Wd} (l:List Bs) (h:¬ l.length<32):paramsP f l (x :: r)=.error (wpos x,5):=by
 rw [paramsP];simp only [needM,decide_eq_false h];rfl
theorem params_err {f:Int × Int} {x:Wd} {r:List Wd} {g:Flt} (l:List Bs) (h:l.length<32) (ho:freshP f l (x :: r)=.error g):paramsP f l (x :: r)=.error g:=by
 rw [fresh_one] at ho
 rw [paramsP];simp only [needM,decide_eq_true h,if_true,bind,Except.bind]
 cases he:freshP f l [x] with
 | error e=>rw [he] at ho;injection ho with ho;subst ho;rfl
 | ok p=>rw [he] at ho;cases ho
theorem params_ok {f:Int × Int} {x:Wd} {r q:List Wd} {s:Bs} (l:List Bs) (h:l.length<32) (ho:freshP f l (x :: r)=.ok (s,q)):paramsP f l (x :: r)=paramsP f (l++[s]) q/\q=r:=by
 rw [fresh_one] at ho
 rw [paramsP];simp only [needM,decide_eq_true h,if_true,bind,Except.bind]
 cases he:freshP f l [x] with
 | error e=>rw [he] at ho;cases ho
 | ok p=>rw [he] at ho;injection ho with ho;injection ho with h1 h2;subst h1 h2;exact ⟨rfl,rfl⟩
theorem fresh_pos {f:Int × Int} {ws:List Wd} {k k':Nat} {x:Wd} {s:Bs} {l:List Bs} (h:freshP f l (x :: ws.drop (k+1))=.ok (s,ws.drop k')) (hl:l.length<32) (hx:ws.drop k=x :: ws.drop (k+1)) (hk:k<=ws.length) (hk':k'<=ws.length):k'=k+1:=by
 have h2:=congrArg List.length (params_ok l hl h).2
 have h1:=congrArg List.length hx
 simp only [List.length_drop,List.length_cons] at h1 h2
 omega
theorem params_end {f:Int × Int} (l:List Bs):paramsP f l []=.ok l:=by rw [paramsP];rfl
theorem GR.strF {R R':Nat->Prop} {B e:Nat} {w w':World} {v:Value} {l:List Bs} (h:GR kStr R B e w v l) (ho:∀ j,v.ownBlock=some j->w'.heap[j]?=w.heap[j]?):GR kStr R' B e w' v l :=
 GR.str (GR.keep (R':=fun _=>False) (GR.str (R':=fun _=>False) h) (fun k hk=>hk.elim) ho)
theorem GR.slx {R:Nat->Prop} {B e x:Nat} {w:World} {v:Value} {l:List Bs} (h:GR kStr R B e w v l) (hl:l.length<=5000) (hne:v.ownBlock ≠ some x):SlG kStr (fun i=>i<w.heap.size/\i ≠ x) w v l :=
 (GR.sl (GR.str (R':=fun _=>False) h) (by omega)).weaken fun i hi=>by
  rcases hi with hi | hi
  ·exact hi.elim
  ·exact ⟨(h.lt i hi).2,fun e=>hne (e ▸ hi)⟩
open Go.RowKit
section
variable {Fe:Fence} {n:Nat} {P:Program} {ops:Array Oper} {Q:Exit->Act->World->Prop} {md:Region.Mode} {S:World->Prop}
theorem wpHJ_both (i j:Nat) {z:Nat} {oi oj:Oper} {fuel:Nat} {listed:Array Bool} {a:Act} {w:World} (hr:Region.ready md ops listed=[i,j]) (hi:ops[i]?=some oi) (hj:ops[j]?=some oj)
  (h:∀ K:Act->World->Prop,(∀ a' w',(i=z\/listed.getD z false=true\/S w')->wpHJ Fe n P md ops Q S z fuel (listed.setIfInBounds i true) a' w'->K a' w') ->
   if Region.wanted oi (yielded ops a.tmps) then oi.wpIn Fe n P a w K Q else (∀ f,oi.about P w a.eval=some f->Fe.fn f)/\K (a.put oi.dst undef) w)
  (h':∀ K:Act->World->Prop,(∀ a' w',(j=z\/listed.getD z false=true\/S w')->wpHJ Fe n P md ops Q S z fuel (listed.setIfInBounds j true) a' w'->K a' w') ->
   if Region.wanted oj (yielded ops a.tmps) then oj.wpIn Fe n P a w K Q else (∀ f,oj.about P w a.eval=some f->Fe.fn f)/\K (a.put oj.dst undef) w) :
  wpHJ Fe n P md ops Q S z (fuel+1) listed a w:=by
 refine ⟨fun h0=>(by rw [h0] at hr;cases hr),fun k hk=>?_⟩
 rw [hr] at hk
 simp only [List.mem_cons,List.not_mem_nil,or_false] at hk
 rcases hk with rfl | rfl
 ·unfold wpOpIn
  simp only [hi]
  exact h _ (fun a' w' h1 h2=>⟨h1,h2⟩)
 ·unfold wpOpIn
  simp only [hj]
  exact h' _ (fun a' w' h1 h2=>⟨h1,h2⟩)
end
end Go.Proofs.YtoofbgoeipijcaaGreatDoor
