/-
 A part.
-/
import Derived.Test.YtoofbgoeipijcaaGreatDoorVB24
import Derived.Lib.Join
import Derived.Lib.Split
import Derived.Lib.SplitLaws
import Derived.Lib.ItoaNum
import Derived.Test.YtoofbgoeipijcaaGreatDoorVB12
namespace Go.Proofs.YtoofbgoeipijcaaGreatDoor
set_option linter.all false
open Go.RowKit Go.Shelf
attribute [local go_sem] Oper.semAt_some
def exF (r:Except Flt (List (List Bs) × List Bs)) (k:List (List Bs)->List Bs->Flt):Flt:=match r with | .error f=>f | .ok (a,b)=>k a b
def exS {α:Type} (r:Except Flt (List Bs × List Bs)) (k:List Bs->List Bs->Except Flt α):Except Flt α:=match r with | .error f => .error f | .ok (a,b)=>k a b
def exI (r:Except Flt (List Bs × List Bs)) (k:List Bs->Flt):Flt:=match r with | .error f=>f | .ok (a,_)=>k a
def ck7 (p:Pg):Flt:=(loopsAllM p p.funcs).getD ((0,0),0)
def ck6 (p:Pg) (ml:List Bs):Flt:=(targetsM p ml p.main).getD (ck7 p)
def ck5 (p:Pg) (labels:List (List Bs)) (ml:List Bs):Flt:=(laterM p labels p.funcs).getD (ck6 p ml)
def ck4 (p:Pg) (labels:List (List Bs)) (sites:List Bs):Flt:=exI (instrsM p.chans (p.arrays.map Ar.nm) true (0,0) p.main sites) (ck5 p labels)
def ck3 (p:Pg):Flt:=if 32<p.funcs.length then ((0,0),5) else exF (funcsM p.chans (p.arrays.map Ar.nm) [] [] [] p.funcs) (ck4 p)
def ck2 (p:Pg):Flt:=if 32<p.arrays.length then ((0,0),5) else (arrsM [] p.arrays).getD (ck3 p)
def ck1 (p:Pg):Flt:=if 32<p.chans.length then ((0,0),5) else (declM (0,0) [] p.chans).getD (ck2 p)
theorem checkM_ck (p:Pg):checkM p=if p.width<1\/64<p.width then ((0,0),3) else ck1 p:=by
 unfold checkM
 split
 ·rfl
 unfold ck1
 split
 ·rfl
 cases declM (0,0) [] p.chans with
 | some f=>rfl
 | none =>
 simp only [Option.getD_none]
 unfold ck2
 split
 ·rfl
 cases arrsM [] p.arrays with
 | some f=>rfl
 | none =>
 simp only [Option.getD_none]
 unfold ck3
 split
 ·rfl
 cases funcsM p.chans (p.arrays.map Ar.nm) [] [] [] p.funcs with
 | error f=>rfl
 | ok q =>
 obtain ⟨labels,sites⟩:=q
 simp only [exF]
 unfold ck4
 cases instrsM p.chans (p.arrays.map Ar.nm) true (0,0) p.main sites with
 | error f=>rfl
 | ok q =>
 obtain ⟨ml,s2⟩:=q
 simp only [exI]
 unfold ck5
 cases laterM p labels p.funcs with
 | some f=>rfl
 | none =>
 simp only [Option.getD_none]
 unfold ck6
 cases targetsM p ml p.main with
 | some f=>rfl
 | none =>
 simp only [Option.getD_none]
 unfold ck7
 cases loopsAllM p p.funcs with
 | some f=>rfl
 | none=>rfl
theorem declM_cons (pos:Int × Int) (seen:List Bs) (s:Bs) (r:List Bs):declM pos seen (s :: r)=if namedB s=false then some (pos,4) else if seen.contains s then some (pos,8) else declM pos (seen++[s]) r:=rfl
theorem arrsM_cons (seen:List Bs) (a:Ar) (r:List Ar):arrsM seen (a :: r)=if namedB a.nm=false then some ((0,0),4) else if seen.contains a.nm then some ((0,0),8) else if a.size<1\/64<a.size then some ((0,0),3) else arrsM (seen++[a.nm]) r:=rfl
structure RI (B:Nat) (w0:World) (K:CK) (vl:Value) (rs:List Nat) (S:CS) (b2 b3:Nat) (W:World):Prop where
 ck:Ck B W K vl rs S
 pr:PrB B W
 z:BxL 39 b2 [.int .i64 0,.int .i64 0] W
 pb:BxL 27 b3 [.int .i64 K.p.width,K.a,K.b,K.c,K.d] W
 bel:Below B w0 W
 o2:Off B K vl rs b2
 o3:Off B K vl rs b3
variable {B:Nat} {w0 W W':World} {K:CK} {vl:Value} {rs:List Nat} {S:CS} {b2 b3:Nat}
theorem RI.below (h:RI B w0 K vl rs S b2 b3 W) (hb:Below W.heap.size W W'):RI B w0 K vl rs S b2 b3 W' :=
 ⟨h.ck.below hb,h.pr.step (hb.mono h.ck.size),h.z.bel hb,h.pb.bel hb,h.bel.trans (hb.mono h.ck.size),h.o2,h.o3⟩
theorem RI.drew (h:RI B w0 K vl rs S b2 b3 W):RI B w0 K vl rs S b2 b3 W.drew:=h.below (Below.refl _ _).drew
theorem RI.but (h:RI B w0 K vl rs S b2 b3 W) {F:Nat->Prop} (hb:But F W W') {S':CS} (hck:Ck B W' K vl rs S') (hF:∀ k,F k->B<=k/\k ≠ b2/\k ≠ b3):RI B w0 K vl rs S' b2 b3 W':=by
 have hbl:=hb.below h.ck.size fun k hk=>(hF k hk).1
 exact ⟨hck,h.pr.step hbl,h.z.keep (hb.block _ h.z.lt fun e=>(hF _ e).2.1 rfl),h.pb.keep (hb.block _ h.pb.lt fun e=>(hF _ e).2.2 rfl),h.bel.trans hbl,h.o2,h.o3⟩
theorem RI.setCh (h:RI B w0 K vl rs S b2 b3 W) (hb:But (fun k=>k=K.mc) W W') {l:List Bs} (hm:NmS W' K.mc l):RI B w0 K vl rs { S with chans:=l } b2 b3 W' :=
 h.but hb (h.ck.setCh hb hm) fun k hk=>by rw [hk];exact ⟨h.ck.ge.2.1,fun e=>h.o2.2.2.1 e.symm,fun e=>h.o3.2.2.1 e.symm⟩
theorem RI.setAr (h:RI B w0 K vl rs S b2 b3 W) (hb:But (fun k=>k=K.ma) W W') {l:List Bs} (hm:NmS W' K.ma l):RI B w0 K vl rs { S with arrays:=l } b2 b3 W' :=
 h.but hb (h.ck.setAr hb hm) fun k hk=>by rw [hk];exact ⟨h.ck.ge.2.2.1,fun e=>h.o2.2.2.2.1 e.symm,fun e=>h.o3.2.2.2.1 e.symm⟩
theorem RI.setPm (h:RI B w0 K vl rs S b2 b3 W) (hb:But (fun k=>k=K.mp) W W') {l:List (Bs × Nat)} (hm:CtS W' K.mp l):RI B w0 K vl rs { S with params:=l } b2 b3 W' :=
 h.but hb (h.ck.setPm hb hm) fun k hk=>by rw [hk];exact ⟨h.ck.ge.2.2.2.2,fun e=>h.o2.2.2.2.2.2.1 e.symm,fun e=>h.o3.2.2.2.2.2.1 e.symm⟩
theorem RI.other (h:RI B w0 K vl rs S b2 b3 W) {m:Nat} (hb:But (fun k=>k=m) W W') (ho:Off B K vl rs m) (h2:m ≠ b2) (h3:m ≠ b3):RI B w0 K vl rs S b2 b3 W' :=
 h.but hb (h.ck.but hb fun k hk=>by rw [hk];exact ho) fun k hk=>by rw [hk];exact ⟨ho.1,h2,h3⟩
theorem Off.geB {k:Nat} (h:Off B K vl rs k):B<=k:=h.1
theorem Off.moved {k r:Nat} {vl':Value} (h:Off B K vl rs k) (hk:k<W.heap.size) (hm:Moved W vl vl') (hr:W.heap.size<=r):Off B K vl' (rs++[r]) k:=by
 refine ⟨h.1,h.2.1,h.2.2.1,h.2.2.2.1,h.2.2.2.2.1,h.2.2.2.2.2.1,fun e=>?_,fun e=>?_⟩
 ·rcases hm with e' | ⟨q,e',hq⟩
  ·exact h.2.2.2.2.2.2.1 (e'.symm.trans e)
  ·rw [e'] at e;injection e with e;omega
 ·rcases List.mem_append.1 e with e | e
  ·exact h.2.2.2.2.2.2.2 e
  ·have:=List.mem_singleton.1 e;omega
theorem RI.labels (h:RI B w0 K vl rs S b2 b3 W) {vl':Value} {r:Nat} {S':CS} (hck:Ck B W' K vl' (rs++[r]) S') (hb:But (fun k=>k=K.cb\/k=K.ms\/vl.ownBlock=some k) W W') (hr:W.heap.size<=r) (hm:Moved W vl vl'):RI B w0 K vl' (rs++[r]) S' b2 b3 W':=by
 have hF:∀ k,(k=K.cb\/k=K.ms\/vl.ownBlock=some k)->B<=k:=fun k hk=>by
  rcases hk with hk | hk | hk
  ·rw [hk];exact h.ck.ge.1
  ·rw [hk];exact h.ck.ge.2.2.2.1
  ·exact (h.ck.lb.lt k hk).1
 have hbl:=hb.below h.ck.size hF
 have hno:∀ k,Off B K vl rs k->¬ (k=K.cb\/k=K.ms\/vl.ownBlock=some k):=fun k ho e=>by
  rcases e with e | e | e
  ·exact ho.2.1 e
  ·exact ho.2.2.2.2.1 e
  ·exact ho.2.2.2.2.2.2.1 e
 exact ⟨hck,h.pr.step hbl,h.z.keep (hb.block _ h.z.lt (hno _ h.o2)),h.pb.keep (hb.block _ h.pb.lt (hno _ h.o3)),h.bel.trans hbl,h.o2.moved h.z.lt hm hr,h.o3.moved h.pb.lt hm hr⟩
theorem NmS.off {l:List Bs} {m:Nat} (hn:NmS W m l) (ho:Off B K vl rs m) (hb:But (fun k=>k=K.cb\/k=K.ms\/vl.ownBlock=some k) W W'):NmS W' m l :=
 hn.keep (hb.block m hn.lt fun e=>by
  rcases e with e | e | e
  ·exact ho.2.1 e
  ·exact ho.2.2.2.2.1 e
  ·exact ho.2.2.2.2.2.2.1 e)
structure FL (B:Nat) (w0:World) (K:CK) (vl:Value) (rs:List Nat) (S:CS) (b2 b3 fm:Nat) (seen:List Bs) (W:World):Prop where
 ri:RI B w0 K vl rs S b2 b3 W
 nm:NmS W fm seen
 of:Off B K vl rs fm
 n2:fm ≠ b2
 n3:fm ≠ b3
variable {fm:Nat} {seen:List Bs}
theorem FL.below (h:FL B w0 K vl rs S b2 b3 fm seen W) (hb:Below W.heap.size W W'):FL B w0 K vl rs S b2 b3 fm seen W':=⟨h.ri.below hb,h.nm.keep (hb.block fm h.nm.lt),h.of,h.n2,h.n3⟩
theorem FL.drew (h:FL B w0 K vl rs S b2 b3 fm seen W):FL B w0 K vl rs S b2 b3 fm seen W.drew:=h.below (Below.refl _ _).drew
theorem FL.decl (h:FL B w0 K vl rs S b2 b3 fm seen W) {l:List Bs} (hm:NmS W' fm l) (hb:But (fun k=>k=fm) W W'):FL B w0 K vl rs S b2 b3 fm l W':=⟨h.ri.other hb h.of h.n2 h.n3,hm,h.of,h.n2,h.n3⟩
theorem FL.other (h:FL B w0 K vl rs S b2 b3 fm seen W) {m:Nat} (hb:But (fun k=>k=m) W W') (ho:Off B K vl rs m) (h2:m ≠ b2) (h3:m ≠ b3) (hf:m ≠ fm):FL B w0 K vl rs S b2 b3 fm seen W' :=
 ⟨h.ri.other hb ho h2 h3,h.nm.keep (hb.block fm h.nm.lt fun e=>hf e.symm),h.of,h.n2,h.n3⟩
theorem FL.setPm (h:FL B w0 K vl rs S b2 b3 fm seen W) (hb:But (fun k=>k=K.mp) W W') {l:List (Bs × Nat)} (hm:CtS W' K.mp l):FL B w0 K vl rs { S with params:=l } b2 b3 fm seen W' :=
 ⟨h.ri.setPm hb hm,h.nm.keep (hb.block fm h.nm.lt fun e=>h.of.2.2.2.2.2.1 e),h.of,h.n2,h.n3⟩
theorem FL.labels (h:FL B w0 K vl rs S b2 b3 fm seen W) {vl':Value} {r:Nat} {S':CS} (hck:Ck B W' K vl' (rs++[r]) S') (hb:But (fun k=>k=K.cb\/k=K.ms\/vl.ownBlock=some k) W W') (hr:W.heap.size<=r) (hm:Moved W vl vl'):FL B w0 K vl' (rs++[r]) S' b2 b3 fm seen W' :=
 ⟨h.ri.labels hck hb hr hm,h.nm.off h.of hb,h.of.moved h.nm.lt hm hr,h.n2,h.n3⟩
theorem FL.start (h:RI B w0 K vl rs S b2 b3 W):FL B w0 K vl rs S b2 b3 W.heap.size [] (W.alloc (.map #[] 0)) :=
 ⟨h.below (bA),NmS.new W,h.ck.apart lrf,by have:=h.z.lt;omega,by have:=h.pb.lt;omega⟩
theorem BxL.bum {t:TypeId} {b m:Nat} {cs:List Value} (h:BxL t b cs W) (hb:But (fun k=>k=m) W W') {d:List Ent} (hm:MapS W m d):BxL t b cs W':=h.keep (hb.block b h.lt fun e=>MapS.not_cells hm (e ▸ h))
theorem funcsM_cons (ch ar:List Bs) (seen:List Bs) (ls:List (List Bs)) (st:List Bs) (f:Fu) (r:List Fu):funcsM ch ar seen ls st (f :: r) =
  if namedB f.nm=false then .error (f.pos,4) else if seen.contains f.nm then .error (f.pos,8) else
  if 32<f.params.length then .error (f.pos,5) else
  match declM f.pos [] f.params with
  | some x => .error x
  | none=>exS (instrsM ch ar false f.pos f.code st) fun l s=>funcsM ch ar (seen++[f.nm]) (ls++[l]) s r:=by
 conv=>lhs;unfold funcsM
 split
 ·rfl
 ·split
  ·rfl
  ·split
   ·rfl
   ·cases declM f.pos [] f.params with
    | some x=>rfl
    | none =>
     cases instrsM ch ar false f.pos f.code st with
     | error x=>rfl
     | ok q=>obtain ⟨a,b⟩:=q;rfl
def cntL (l:List Fu):List (Bs × Nat):=l.map fun f=>(f.nm,f.params.length)
theorem cnt_get (l:List Fu) (s:Bs):getC (cntL l) s=(l.find? fun f=>decide (f.nm=s)).map fun f=>f.params.length:=by
 unfold getC cntL
 rw [List.find?_map]
 simp only [Function.comp_def,Option.map_map]
theorem cnt_params (p:Pg) (s:Bs):getC (cntL p.funcs) s=paramsOf p s:=cnt_get _ _
theorem cnt_fresh (l:List Fu) (s:Bs) (h:(l.map Fu.nm).contains s=false):getC (cntL l) s=none:=by
 rw [cnt_get,List.find?_eq_none.2]
 ·rfl
 intro f hf hc
 have h1:f.nm=s:=by simpa using hc
 have h2:(l.map Fu.nm).contains s=true:=by rw [List.contains_iff_mem,<- h1];exact List.mem_map_of_mem hf
 rw [h2] at h;cases h
theorem cnt_snoc (l:List Fu) (f:Fu):cntL (l++[f])=cntL l++[(f.nm,f.params.length)]:=by simp [cntL]
theorem step_ne0 {ch ar:List Bs} {mn:Bool} {l s:List Bs} {x:In} {f:Flt} (h:stepM ch ar mn l s x=.error f):f.2 ≠ 0:=by
 unfold stepM at h
 split at h
 ·cases h;simp
 split at h
 ·split at h <;> cases h;simp
 split at h
 ·split at h <;> cases h;simp
 split at h
 ·split at h <;> cases h;simp
 split at h
 ·split at h
  ·cases h
  ·split at h <;> cases h;simp
 ·cases h
theorem body_ne0 {ch ar:List Bs} {mn:Bool}:∀ (c:List In) (l s:List Bs) (f:Flt),bodyM ch ar mn c l s=.error f->f.2 ≠ 0
 | [],_,_,_,h=>by cases h
 | x :: r,l,s,f,h=>by
  unfold bodyM at h
  cases e:stepM ch ar mn l s x with
  | error y=>rw [e] at h;cases h;exact step_ne0 e
  | ok q=>obtain ⟨a,b⟩:=q;rw [e] at h;exact body_ne0 r a b f h
theorem instrs_ne0 {ch ar:List Bs} {mn:Bool} {pos:Int × Int} {c:List In} {s:List Bs} {f:Flt} (h:instrsM ch ar mn pos c s=.error f):f.2 ≠ 0:=by
 unfold instrsM at h
 split at h
 ·cases h;simp
 ·exact body_ne0 _ _ _ _ h
theorem target_ne0 {p:Pg} {l:List Bs} {x:In} {f:Flt} (h:targetM p l x=some f):f.2 ≠ 0:=by
 unfold targetM at h
 split at h
 ·split at h <;> cases h;simp
 split at h
 ·split at h
  ·cases h;simp
  ·split at h <;> cases h;simp
 ·cases h
theorem targets_ne0 {p:Pg} {l:List Bs}:∀ (c:List In) (f:Flt),targetsM p l c=some f->f.2 ≠ 0
 | [],_,h=>by cases h
 | x :: r,f,h=>by
  unfold targetsM at h
  cases e:targetM p l x with
  | some y=>rw [e] at h;cases h;exact target_ne0 e
  | none=>rw [e] at h;exact targets_ne0 r f h
theorem targets_called {p:Pg} {lb:List Bs}:∀ l,targetsM p lb l=none->∀ x ∈ l,x.kind=4->x.nm ∈ namesP p
 | [],_,x,hx,_=>by cases hx
 | y :: r,h,x,hx,hk=>by
  unfold targetsM at h
  cases e:targetM p lb y with
  | some f=>rw [e] at h;cases h
  | none =>
   rw [e] at h
   rcases List.mem_cons.1 hx with hx | hx
   ·subst hx
    unfold targetM at e
    rw [if_neg (by omega),if_pos hk] at e
    unfold paramsOf at e
    cases e2:p.funcs.find? fun f=>decide (f.nm=x.nm) with
    | none=>rw [e2] at e;cases e
    | some f =>
     have h1:=List.find?_some e2
     exact List.mem_map.2 ⟨f,List.mem_of_find?_eq_some e2,by simpa using h1⟩
   ·exact targets_called r h x hx hk
theorem later_called {p:Pg}:∀ (l:List Fu) (ls:List (List Bs)),laterM p ls l=none->∀ f ∈ l,∀ x ∈ f.code,x.kind=4->x.nm ∈ namesP p
 | [],_,_,f,hf,_=>by cases hf
 | g :: r,ls,h,f,hf,x=>by
  unfold laterM at h
  cases e:targetsM p (ls.headD []) g.code with
  | some y=>rw [e] at h;cases h
  | none =>
   rw [e] at h
   rcases List.mem_cons.1 hf with hf | hf
   ·subst hf;exact targets_called f.code e x
   ·exact later_called r _ h f hf x
theorem closed_later {p:Pg} {ls:List (List Bs)} (h:laterM p ls p.funcs=none):Closed p:=by
 intro a b hb
 unfold callsM at hb
 obtain ⟨x,hx,rfl⟩:=List.mem_map.1 hb
 obtain ⟨hx1,hx2⟩:=List.mem_filter.1 hx
 unfold codeOf at hx1
 cases e:p.funcs.find? fun f=>decide (f.nm=a) with
 | none=>rw [e] at hx1;simp at hx1
 | some f =>
  rw [e] at hx1
  exact later_called p.funcs ls h f (List.mem_of_find?_eq_some e) x (by simpa using hx1) (by simpa using hx2)
theorem funcs_len {ch ar:List Bs}:∀ (l:List Fu) (seen:List Bs) (ls:List (List Bs)) (st:List Bs) (ls':List (List Bs)) (st':List Bs),funcsM ch ar seen ls st l=.ok (ls',st')->ls'.length=ls.length+l.length/\∀ f ∈ l,f.code.length<=1024
 | [],seen,ls,st,ls',st',h=>by cases h;exact ⟨rfl,by simp⟩
 | f :: r,seen,ls,st,ls',st',h=>by
  rw [funcsM_cons] at h
  split at h
  ·cases h
  split at h
  ·cases h
  split at h
  ·cases h
  cases e:declM f.pos [] f.params with
  | some x=>rw [e] at h;cases h
  | none =>
   rw [e] at h
   cases e2:instrsM ch ar false f.pos f.code st with
   | error x=>rw [e2] at h;cases h
   | ok q =>
    obtain ⟨a,b⟩:=q
    rw [e2] at h
    obtain ⟨h1,h2⟩:=funcs_len r _ _ _ _ _ h
    refine ⟨by rw [h1,List.length_append,List.length_cons];simp only [List.length_cons,List.length_nil];omega,fun g hg=>?_⟩
    rcases List.mem_cons.1 hg with hg | hg
    ·subst hg
     unfold instrsM at e2
     split at e2
     ·cases e2
     ·omega
    ·exact h2 g hg
theorem laterM_cons (p:Pg) (l:List Bs) (ls:List (List Bs)) (f:Fu) (r:List Fu):laterM p (l :: ls) (f :: r)=match targetsM p l f.code with | some x=>some x | none=>laterM p ls r:=rfl
theorem loopsAllM_cons (p:Pg) (f:Fu) (r:List Fu):loopsAllM p (f :: r)=if loopB p f.nm then some (f.pos,9) else loopsAllM p r:=rfl
theorem SlG.via {α:Type} {K:EK α} {v:Value} {l:List α} (h:SlG K (·<B) W v l) (hb:Below B w0 W) (hb':Below B w0 W'):SlG K (·<B) W' v l:=h.keep fun k hk=>⟨hk,(hb'.block k hk).trans (hb.block k hk).symm⟩
theorem Ck.label {w:World} {p:Option Addr} {n c:Nat} (h:Ck B w K (.slice p n c) rs S) (hn:rs.length=n) (hn':n<=1000) (h0:0<n):∃ b off,p=some ⟨b,off,none⟩/\∀ k (hk:k<S.labels.length),∃ r,w.cell? ⟨b,off+k,none⟩=some (.map (some r))/\NmS w r S.labels[k]:=by
 obtain ⟨b,off,e,_,hc⟩:=(h.lb.sl (by omega)).at (by omega)
 refine ⟨b,off,e,fun k hk=>?_⟩
 have hk':k<rs.length:=by rw [h.rl];exact hk
 obtain ⟨cs,h1,h2⟩:=hc k hk'
 subst h1
 exact ⟨rs[k],by have:=h2 0 _ rfl;simpa [kMap] using this,h.lm k hk hk'⟩
theorem Ck.label' {w:World} {b off n c:Nat} (h:Ck B w K (.slice (some ⟨b,off,none⟩) n c) rs S) (hn:rs.length=n) (hn':n<=1000) (k:Nat) (hk:k<S.labels.length):∃ r,w.cell? ⟨b,off+k,none⟩=some (.map (some r))/\NmS w r S.labels[k]:=by
 obtain ⟨b',off',e,h1⟩:=h.label hn hn' (by have:=h.rl;omega)
 cases e
 exact h1 k hk
theorem cellB {B:Nat} {w w':World} (h:Below B w w') {a:Addr} {v:Value} (hc:w.cell? a=some v) (hB:w.heap.size<=B):w'.cell? a=some v:=by
 have hlt:a.block<w.heap.size:=by
  unfold World.cell? at hc
  cases e:w.heap[a.block]? with
  | none=>simp [e] at hc
  | some o=>exact (Array.getElem?_eq_some_iff.1 e).1
 rw [h.cell (Nat.lt_of_lt_of_le hlt hB)];exact hc
theorem laterM_nil (p:Pg) (ls:List (List Bs)):laterM p ls []=none:=by cases ls <;> rfl
def RunPost (B:Nat) (p:Pg) (w:World) (e:Ending) (w':World):Prop:=(if (checkM p).2=0 then e=.returned (.tuple #[])/\checkM p=((0,0),0) else e=.panicked (fltC (checkM p)))/\Below B w w'
theorem RunPost.bad {p:Pg} {f:Flt} {w w':World} (h:checkM p=f) (h0:f.2 ≠ 0) (hb:Below B w w'):RunPost B p w (.panicked (fltC f)) w':=⟨by rw [h,if_neg h0],hb⟩
theorem RunPost.ok {p:Pg} {w w':World} (h:checkM p=((0,0),0)) (hb:Below B w w'):RunPost B p w (.returned (.tuple #[])) w':=⟨by rw [if_pos (by rw [h])];exact ⟨rfl,h⟩,hb⟩
structure PgOk (p:Pg):Prop where
 funcs:∀ f ∈ p.funcs,∀ x ∈ f.code,x.kind<=255/\x.op<=255
 main:∀ x ∈ p.main,x.kind<=255/\x.op<=255
def pcN (n:Nat):Nat:=if 33+n % 94=35 then 36 else 33+n % 94
def pw (c:UInt8):Bs:=List.replicate (1+c.toNat / 94) (UInt8.ofNat (pcN c.toNat))
theorem lt_cons (n:Nat) (c:UInt8) (r:Bs) (i:Nat) (cur:Option (Bs × Nat)) (acc:List Wd):lt n (c :: r) i cur acc=if c=35 then .ok (flushW n cur acc) else if sepB c=true then lt n r (i+1) none (flushW n cur acc) else if badB c=true then .error i else lt n r (i+1) (grow c i cur) acc:=rfl
theorem cutNL_none:∀ s:Bs,(∀ d ∈ s,d ≠ 10)->cutNL s=(s,[],false)
 | [],_=>rfl
 | c :: r,h=>by
  unfold cutNL
  rw [if_neg (h c (by simp)),cutNL_none r fun d hd=>h d (by simp [hd])]
theorem cutNL_at:∀ (s r:Bs),(∀ d ∈ s,d ≠ 10)->cutNL (s++10 :: r)=(s,r,true)
 | [],r,_=>by simp [cutNL]
 | c :: s,r,h=>by
  rw [List.cons_append]
  unfold cutNL
  rw [if_neg (h c (by simp)),cutNL_at s r fun d hd=>h d (by simp [hd])]
def rowsNL (s:Bs):List Bs:=(cutNL s).1 :: (if h:(cutNL s).2.2=true then rowsNL (cutNL s).2.1 else [])
termination_by s.length
decreasing_by exact cutNL_len s h
def OkW (n:Nat) (line:Bs) (x:Wd):Prop:=x.2.1=n/\1<=x.2.2/\x.1 <+: line.drop (x.2.2 - 1)
structure LtI (n:Nat) (line pre:Bs) (cur:Option (Bs × Nat)) (acc:List Wd):Prop where
 ok:∀ x ∈ acc,OkW n line x
 inc:acc.Pairwise (fun a b=>a.2.2<b.2.2)
 le:∀ x ∈ acc,x.2.2<=pre.length
 cur:∀ u c,cur=some (u,c)->1<=c/\c<=pre.length/\pre.drop (c - 1)=u/\∀ x ∈ acc,x.2.2<c
theorem LtI.flush {n:Nat} {line pre t:Bs} {cur:Option (Bs × Nat)} {acc:List Wd} (h:LtI n line pre cur acc) (hl:line=pre++t):(∀ x ∈ flushW n cur acc,OkW n line x)/\(flushW n cur acc).Pairwise (fun a b=>a.2.2<b.2.2)/\∀ x ∈ flushW n cur acc,x.2.2<=pre.length:=by
 cases cur with
 | none=>exact ⟨h.ok,h.inc,h.le⟩
 | some q =>
  obtain ⟨u,c⟩:=q
  obtain ⟨h1,h2,h3,h4⟩:=h.cur u c rfl
  refine ⟨fun x hx=>?_,?_,fun x hx=>?_⟩
  ·rcases List.mem_append.1 hx with hx | hx
   ·exact h.ok x hx
   ·obtain rfl:=List.mem_singleton.1 hx
    refine ⟨rfl,h1,?_⟩
    rw [hl,List.drop_append_of_le_length (by show c - 1<=_;omega),show (c:Nat) - 1=c - 1 from rfl]
    show u <+: pre.drop (c - 1)++t
    rw [h3];exact List.prefix_append _ _
  ·refine List.pairwise_append.2 ⟨h.inc,List.pairwise_singleton _ _,fun a ha b hb=>?_⟩
   obtain rfl:=List.mem_singleton.1 hb
   exact h4 a ha
  ·rcases List.mem_append.1 hx with hx | hx
   ·exact h.le x hx
   ·obtain rfl:=List.mem_singleton.1 hx
    exact h2
theorem LtI.sep {n:Nat} {line pre t:Bs} {cur:Option (Bs × Nat)} {acc:List Wd} {c:UInt8} (h:LtI n line pre cur acc) (hl:line=pre++t):LtI n line (pre++[c]) none (flushW n cur acc):=by
 obtain ⟨h1,h2,h3⟩:=h.flush hl
 exact ⟨h1,h2,fun x hx=>by have:=h3 x hx;simp;omega,fun u c e=>by cases e⟩
theorem LtI.grow {n:Nat} {line pre:Bs} {cur:Option (Bs × Nat)} {acc:List Wd} {c:UInt8} (h:LtI n line pre cur acc):LtI n line (pre++[c]) (grow c pre.length cur) acc:=by
 refine ⟨h.ok,h.inc,fun x hx=>by have:=h.le x hx;simp;omega,?_⟩
 cases cur with
 | none =>
  intro u k e
  simp only [Go.Proofs.YtoofbgoeipijcaaGreatDoor.grow,Option.some.injEq,Prod.mk.injEq] at e
  obtain ⟨rfl,rfl⟩:=e
  exact ⟨by omega,by simp,by simp,fun x hx=>by have:=h.le x hx;omega⟩
 | some q =>
  obtain ⟨t,k⟩:=q
  intro u k' e
  simp only [Go.Proofs.YtoofbgoeipijcaaGreatDoor.grow,Option.some.injEq,Prod.mk.injEq] at e
  obtain ⟨rfl,rfl⟩:=e
  obtain ⟨h1,h2,h3,h4⟩:=h.cur t k rfl
  exact ⟨h1,by simp;omega,by rw [List.drop_append_of_le_length (by omega),h3],h4⟩
theorem lt_spec (n:Nat) (line:Bs):∀ (t pre:Bs) (cur:Option (Bs × Nat)) (acc ws:List Wd),line=pre++t->LtI n line pre cur acc->lt n t pre.length cur acc=.ok ws->(∀ x ∈ ws,OkW n line x)/\ws.Pairwise (fun a b=>a.2.2<b.2.2)
 | [],pre,cur,acc,ws,hl,h,e=>by
  obtain rfl:flushW n cur acc=ws:=by simpa [lt] using e
  exact ⟨(h.flush hl).1,(h.flush hl).2.1⟩
 | c :: r,pre,cur,acc,ws,hl,h,e=>by
  have hl':line=(pre++[c])++r:=by rw [hl];simp
  have hp:pre.length+1=(pre++[c]).length:=by simp
  rw [lt_cons] at e
  split at e
  ·obtain rfl:flushW n cur acc=ws:=by simpa using e
   exact ⟨(h.flush hl).1,(h.flush hl).2.1⟩
  ·split at e
   ·rw [hp] at e
    exact lt_spec n line r (pre++[c]) none _ ws hl' (h.sep hl) e
   ·split at e
    ·cases e
    ·rw [hp] at e
     exact lt_spec n line r (pre++[c]) _ acc ws hl' h.grow e
structure RowOk (rows:List Bs) (n:Nat) (ws:List Wd):Prop where
 ne:ws ≠ []
 at':∃ j,∃ h:j<rows.length,∀ x ∈ ws,OkW (n+j) rows[j] x
 inc:ws.Pairwise (fun a b=>a.2.2<b.2.2)
theorem RowOk.shift {r0:Bs} {rows:List Bs} {n:Nat} {ws:List Wd} (h:RowOk rows (n+1) ws):RowOk (r0 :: rows) n ws:=by
 obtain ⟨h1,⟨j,hj,h2⟩,h3⟩:=h
 exact ⟨h1,⟨j+1,by simpa using hj,fun x hx=>by have:=h2 x hx;rw [show n+1+j=n+(j+1) by omega] at this;simpa using this⟩,h3⟩
theorem RowOk.line {rows:List Bs} {n:Nat} {ws:List Wd} (h:RowOk rows n ws):∃ L,n<=L/\∀ x ∈ ws,x.2.1=L:=by
 obtain ⟨_,⟨j,_,h2⟩,_⟩:=h
 exact ⟨n+j,by omega,fun x hx=>(h2 x hx).1⟩
def Up (a b:List Wd):Prop:=∀ x ∈ a,∀ y ∈ b,x.2.1<y.2.1
theorem ls_spec:∀ (f:Nat) (s:Bs) (n:Nat) (out o:List (List Wd)),s.length<=f->ls n s out=.ok o->∃ new,o=out++new/\(∀ ws ∈ new,RowOk (rowsNL s) n ws)/\new.Pairwise Up:=by
 intro f
 induction f with
 | zero =>
  intro s n out o hf h
  obtain rfl:s=[]:=List.eq_nil_of_length_eq_zero (by omega)
  rw [ls] at h
  have:o=out:=by simpa [cutNL,lt,flushW,addL] using h.symm
  exact ⟨[],by simp [this],by simp,List.Pairwise.nil⟩
 | succ f ih =>
  intro s n out o hf h
  rw [ls] at h
  cases hl:lt n (cutNL s).1 0 none [] with
  | error i=>rw [hl] at h;cases h
  | ok ws =>
   rw [hl] at h
   have h0:LtI n (cutNL s).1 [] none []:=⟨by simp,List.Pairwise.nil,by simp,fun u c e=>by cases e⟩
   obtain ⟨g1,g2⟩:=lt_spec n (cutNL s).1 (cutNL s).1 [] none [] ws rfl h0 hl
   have hr0:∀ (hw:ws ≠ []) (tail:List Bs),RowOk ((cutNL s).1 :: tail) n ws:=fun hw tail=>⟨hw,⟨0,by simp,fun x hx=>by simpa using g1 x hx⟩,g2⟩
   by_cases hm:(cutNL s).2.2=true
   ·simp only [dif_pos hm] at h
    obtain ⟨new,e1,e2,e3⟩:=ih (cutNL s).2.1 (n+1) (addL out ws) o (by have:=cutNL_len s hm;omega) h
    have hrows:rowsNL s=(cutNL s).1 :: rowsNL (cutNL s).2.1:=by rw [rowsNL,dif_pos hm]
    rw [hrows]
    by_cases hw:ws=[]
    ·refine ⟨new,by rw [e1];simp [addL,hw],fun x hx=>(e2 x hx).shift,e3⟩
    ·refine ⟨ws :: new,by rw [e1];simp [addL,hw],fun x hx=>?_,?_⟩
     ·rcases List.mem_cons.1 hx with rfl | hx
      ·exact hr0 hw _
      ·exact (e2 x hx).shift
     ·refine List.pairwise_cons.2 ⟨fun b hb x hx y hy=>?_,e3⟩
      obtain ⟨L,hL,hL2⟩:=(e2 b hb).line
      have:=hL2 y hy
      have:=(g1 x hx).1
      omega
   ·simp only [dif_neg hm] at h
    have hrows:rowsNL s=[(cutNL s).1]:=by rw [rowsNL,dif_neg hm]
    rw [hrows]
    obtain rfl:addL out ws=o:=by simpa using h
    by_cases hw:ws=[]
    ·exact ⟨[],by simp [addL,hw],by simp,List.Pairwise.nil⟩
    ·exact ⟨[ws],by simp [addL,hw],fun x hx=>by obtain rfl:=List.mem_singleton.1 hx;exact hr0 hw _,List.pairwise_singleton _ _⟩
theorem tok_spec (s:Bs) (o:List (List Wd)) (h:tok s=.ok o):(∀ ws ∈ o,RowOk (rowsNL s) 1 ws)/\o.Pairwise Up:=by
 obtain ⟨new,e1,e2,e3⟩:=ls_spec s.length s 1 [] o lrf h
 obtain rfl:o=new:=by simpa using e1
 exact ⟨e2,e3⟩
theorem cutNL_eq:∀ s:Bs,(cutNL s).2.2=true->s=(cutNL s).1++10 :: (cutNL s).2.1
 | [],h=>by simp [cutNL] at h
 | c :: r,h=>by
  unfold cutNL at h ⊢
  split
  ·rename_i e;subst e;rfl
  ·rename_i e
   rw [if_neg e] at h
   have:=cutNL_eq r h
   simp only [List.cons_append]
   rw [<- this]
theorem splitK_nl:∀ (k:Nat) (s:Bs),s.count 10<=k->Lib.splitK [10] 0 k s=rowsNL s
 | 0,s,h=>by
  have hn:∀ d ∈ s,d ≠ 10:=fun d hd e=>by subst e;have:=List.count_pos_iff.2 hd;omega
  rw [rowsNL,cutNL_none s hn];rfl
 | k+1,s,h=>by
  unfold Lib.splitK
  rcases index_nl s with ⟨h1,h2⟩ | ⟨i,h1,h2⟩
  ·rw [h1,rowsNL,h2];rfl
  ·rw [h1,rowsNL,h2,if_neg (by rw [beq_iff_eq];omega)]
   have e1:((i:Int).toNat+0)=i:=by simp
   have e2:((i:Int).toNat+([10]:Bs).length)=i+1:=by simp
   rw [e1,e2,dif_pos rfl]
   congr 1
   refine splitK_nl k _ ?_
   have hc:s=s.take i++10 :: s.drop (i+1):=by
    have:=cutNL_eq s
    rw [h2] at this
    exact this rfl
   have:=congrArg (List.count 10) hc
   rw [List.count_append,List.count_cons_self] at this
   omega
def argT (a:Ag):Bs:=if a.nm=[] then Lib.decDigits a.num else a.nm
def opT (o:Nat):Bs:=opL.getD (o - 2) []
def wLoad:Bs:=[108,111,97,100]
def wStore:Bs:=[115,116,111,114,101]
def wCall:Bs:=[99,97,108,108]
def wIn:Bs:=[105,110]
def wOut:Bs:=[111,117,116]
def wRelease:Bs:=[114,101,108,101,97,115,101]
def wJump:Bs:=[106,117,109,112]
def wIf:Bs:=[105,102]
def wHalt:Bs:=[104,97,108,116]
def wRet:Bs:=[114,101,116]
def wEnd:Bs:=[101,110,100]
def wMain:Bs:=[109,97,105,110]
def wFunc:Bs:=[102,117,110,99]
def wChan:Bs:=[99,104,97,110]
def wArray:Bs:=[97,114,114,97,121]
def wWidth:Bs:=[119,105,100,116,104]
def wordsM (x:In):List Bs :=
 match x.kind with
 | 0=>x.dst :: [61] :: x.args.map argT
 | 1=>x.dst :: [61] :: opT x.op :: x.args.map argT
 | 2=>x.dst :: [61] :: wLoad :: x.nm :: x.args.map argT
 | 3=>wStore :: x.nm :: x.args.map argT
 | 4=>x.dst :: [61] :: wCall :: x.nm :: x.args.map argT
 | 5=>[wIn,x.dst,x.nm]
 | 6=>wOut :: x.nm :: x.args.map argT
 | 7=>x.dst :: [61] :: wRelease :: x.nm :: x.args.map argT
 | 8=>wJump :: x.nm :: x.args.map argT
 | 9=>wIf :: (x.args.map argT++[x.nm])
 | 11=>[wHalt]
 | 12=>wRet :: x.args.map argT
 | _=>[]
def jn (l:List Bs):Bs:=Lib.join l [32]
def lineM (x:In):Bs:=if x.kind=10 then x.nm++[58] else jn (wordsM x)
def bodyT (l:List In):List Bs:=l.map lineM++[wEnd]
def funcT (f:Fu):List Bs:=jn (wFunc :: f.nm :: f.params) :: bodyT f.code
def linesT (p:Pg):List Bs :=
 jn [wWidth,Lib.itoa p.width] :: (p.chans.map fun c=>jn [wChan,c])++(p.arrays.map fun a=>jn [wArray,a.nm,Lib.itoa a.size])++p.funcs.flatMap funcT++wMain :: bodyT p.main
def textT (l:List Bs):Bs:=l.flatMap fun s=>s++[10]
def printM (p:Pg):Bs × Int:=if (checkM p).2 ≠ 0 then ([],(checkM p).2) else if 65536<(textT (linesT p)).length then ([],5) else (textT (linesT p),0)
open Go.Lib
theorem numGo_cons (c:UInt8) (r:Bs) (n:Nat):numGo (c :: r) n=if (18446744073709551615 - (c.toNat - 48)) / 10<n then (0,3) else numGo r (10*n+(c.toNat - 48)):=rfl
theorem dig_nat {d:Nat} (h:d<10):(UInt8.ofNat (48+d)).toNat=48+d:=by rw [UInt8.toNat_ofNat'];omega
theorem decDigits_all:∀ n,(decDigits n).all digB=true:=by
 intro n
 induction n using Nat.strongRecOn with
 | _ n ih =>
  rw [decDigits]
  split
  ·rename_i h
   simp [digB,dig_nat h];omega
  ·rename_i h
   rw [List.all_append,ih (n / 10) (by omega)]
   have:=dig_nat (d:=n % 10) (by omega)
   simp only [List.all_cons,List.all_nil,digB,this]
   simp;omega
theorem numGo_dec:∀ (n:Nat),n<=18446744073709551615->∀ t,numGo (decDigits n++t) 0=numGo t n:=by
 intro n
 induction n using Nat.strongRecOn with
 | _ n ih =>
  intro hn t
  rw [decDigits]
  split
  ·rename_i h
   rw [List.cons_append,List.nil_append,numGo_cons,dig_nat h,if_neg (by omega)]
   congr 1;omega
  ·rename_i h
   rw [List.append_assoc,ih (n / 10) (by omega) (by omega),List.cons_append,List.nil_append,numGo_cons,dig_nat (d:=n % 10) (by omega),if_neg (by omega)]
   congr 1;omega
theorem numGo_zeros:∀ (k:Nat) (t:Bs),numGo (List.replicate k 48++t) 0=numGo t 0
 | 0,t=>rfl
 | k+1,t=>by
  rw [List.replicate_succ,List.cons_append,numGo_cons]
  simpa using numGo_zeros k t
def numS (k n:Nat):Bs:=List.replicate k 48++decDigits n
theorem numS_len (k n:Nat):(numS k n).length=k+nDigits n:=by simp [numS,decDigits_length]
theorem numS_all (k n:Nat):(numS k n).all digB=true:=by
 unfold numS
 rw [List.all_append,decDigits_all,Bool.and_true,List.all_eq_true]
 intro c hc
 obtain rfl:=List.eq_of_mem_replicate hc
 decide
theorem nDigits_pos (n:Nat):1<=nDigits n:=by rw [nDigits];split <;> omega
theorem numR_of (s:Bs) (h:1<=s.length/\s.length<=20):numR s=if s.all digB=true then numGo s 0 else (0,4):=by
 unfold numR;rw [if_neg (by omega)]
theorem numR_numS (k n:Nat) (hn:n<=18446744073709551615) (hk:k+nDigits n<=20):numR (numS k n)=(n,0):=by
 have h1:=nDigits_pos n
 rw [numR_of _ (by rw [numS_len];omega),if_pos (numS_all k n)]
 unfold numS
 rw [numGo_zeros]
 have:=numGo_dec n hn []
 rw [List.append_nil] at this
 rw [this];rfl
end Go.Proofs.YtoofbgoeipijcaaGreatDoor
