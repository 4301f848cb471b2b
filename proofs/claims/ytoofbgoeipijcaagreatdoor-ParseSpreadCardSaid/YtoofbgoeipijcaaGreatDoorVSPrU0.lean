/-
 A part.
-/
import Derived.Test.YtoofbgoeipijcaaGreatDoorVB29
namespace Go.Proofs.YtoofbgoeipijcaaGreatDoor
set_option linter.all false
open Go.RowKit Go.Shelf
attribute [local go_sem] Oper.semAt_some
def exF (r:Except Flt (List (List Bs) × List Bs)) (k:List (List Bs)->List Bs->Flt):Flt:=match r with | .error f=>f | .ok (a,b)=>k a b
def exS {α:Type} (r:Except Flt (List Bs × List Bs)) (k:List Bs->List Bs->Except Flt α):Except Flt α:=match r with | .error f => .error f | .ok (a,b)=>k a b
def exI (r:Except Flt (List Bs × List Bs)) (k:List Bs->Flt):Flt:=match r with | .error f=>f | .ok (a,_)=>k a
def ck7 (p:Pg):Flt:=(loopsAllM p p.funcs).getD ((0,0),0)
def ck6 (p:Pg) (ml:List Bs):Flt:=(targetsM p ml p.main).getD (ck7 p)
def ck5 (p:Pg) (labels:List (List Bs)) (ml:List Bs):Flt:=(laterM p labels p.funcs).getD (ck6 p ml)
def ck4 (p:Pg) (labels:List (List Bs)) (sites:List Bs):Flt:=exI (instrsM p.chans (p.arrays.map Ar.nm) true (0,0) p.main sites) (ck5 p labels)
def ck3 (p:Pg):Flt:=if 32<p.funcs.length then ((0,0),5) else exF (funcsM p.chans (p.arrays.map Ar.nm) [] [] [] p.funcs) (ck4 p)
def ck2 (p:Pg):Flt:=if 32<p.arrays.length then ((0,0),5) else (arrsM [] p.arrays).getD (ck3 p)
def ck1 (p:Pg):Flt:=if 32<p.chans.length then ((0,0),5) else (declM (0,0) [] p.chans).getD (ck2 p)
theorem checkM_ck (p:Pg):checkM p=if p.width<1\/64<p.width then ((0,0),3) else ck1 p:=by
 unfold checkM
 split
 ·rfl
 unfold ck1
 split
 ·rfl
 cases declM (0,0) [] p.chans with
 | some f=>rfl
 | none =>
 simp only [Option.getD_none]
 unfold ck2
 split
 ·rfl
 cases arrsM [] p.arrays with
 | some f=>rfl
 | none =>
 simp only [Option.getD_none]
 unfold ck3
 split
 ·rfl
 cases funcsM p.chans (p.arrays.map Ar.nm) [] [] [] p.funcs with
 | error f=>rfl
 | ok q =>
 obtain ⟨labels,sites⟩:=q
 simp only [exF]
 unfold ck4
 cases instrsM p.chans (p.arrays.map Ar.nm) true (0,0) p.main sites with
 | error f=>rfl
 | ok q =>
 obtain ⟨ml,s2⟩:=q
 simp only [exI]
 unfold ck5
 cases laterM p labels p.funcs with
 | some f=>rfl
 | none =>
 simp only [Option.getD_none]
 unfold ck6
 cases targetsM p ml p.main with
 | some f=>rfl
 | none =>
 simp only [Option.getD_none]
 unfold ck7
 cases loopsAllM p p.funcs with
 | some f=>rfl
 | none=>rfl
theorem declM_cons (pos:Int × Int) (seen:List Bs) (s:Bs) (r:List Bs):declM pos seen (s :: r)=if namedB s=false then some (pos,4) else if seen.contains s then some (pos,8) else declM pos (seen++[s]) r:=rfl
theorem arrsM_cons (seen:List Bs) (a:Ar) (r:List Ar):arrsM seen (a :: r)=if namedB a.nm=false then some ((0,0),4) else if seen.contains a.nm then some ((0,0),8) else if a.size<1\/64<a.size then some ((0,0),3) else arrsM (seen++[a.nm]) r:=rfl
structure RI (B:Nat) (w0:World) (K:CK) (vl:Value) (rs:List Nat) (S:CS) (b2 b3:Nat) (W:World):Prop where
 ck:Ck B W K vl rs S
 pr:PrB B W
 z:BxL 39 b2 [.int .i64 0,.int .i64 0] W
 pb:BxL 27 b3 [.int .i64 K.p.width,K.a,K.b,K.c,K.d] W
 bel:Below B w0 W
 o2:Off B K vl rs b2
 o3:Off B K vl rs b3
variable {B:Nat} {w0 W W':World} {K:CK} {vl:Value} {rs:List Nat} {S:CS} {b2 b3:Nat}
theorem RI.below (h:RI B w0 K vl rs S b2 b3 W) (hb:Below W.heap.size W W'):RI B w0 K vl rs S b2 b3 W' :=
 ⟨h.ck.below hb,h.pr.step (hb.mono h.ck.size),h.z.bel hb,h.pb.bel hb,h.bel.trans (hb.mono h.ck.size),h.o2,h.o3⟩
theorem RI.drew (h:RI B w0 K vl rs S b2 b3 W):RI B w0 K vl rs S b2 b3 W.drew:=h.below (Below.refl _ _).drew
theorem RI.but (h:RI B w0 K vl rs S b2 b3 W) {F:Nat->Prop} (hb:But F W W') {S':CS} (hck:Ck B W' K vl rs S') (hF:∀ k,F k->B<=k/\k ≠ b2/\k ≠ b3):RI B w0 K vl rs S' b2 b3 W':=by
 have hbl:=hb.below h.ck.size fun k hk=>(hF k hk).1
 exact ⟨hck,h.pr.step hbl,h.z.keep (hb.block _ h.z.lt fun e=>(hF _ e).2.1 rfl),h.pb.keep (hb.block _ h.pb.lt fun e=>(hF _ e).2.2 rfl),h.bel.trans hbl,h.o2,h.o3⟩
theorem RI.setCh (h:RI B w0 K vl rs S b2 b3 W) (hb:But (fun k=>k=K.mc) W W') {l:List Bs} (hm:NmS W' K.mc l):RI B w0 K vl rs { S with chans:=l } b2 b3 W' :=
 h.but hb (h.ck.setCh hb hm) fun k hk=>by rw [hk];exact ⟨h.ck.ge.2.1,fun e=>h.o2.2.2.1 e.symm,fun e=>h.o3.2.2.1 e.symm⟩
theorem RI.setAr (h:RI B w0 K vl rs S b2 b3 W) (hb:But (fun k=>k=K.ma) W W') {l:List Bs} (hm:NmS W' K.ma l):RI B w0 K vl rs { S with arrays:=l } b2 b3 W' :=
 h.but hb (h.ck.setAr hb hm) fun k hk=>by rw [hk];exact ⟨h.ck.ge.2.2.1,fun e=>h.o2.2.2.2.1 e.symm,fun e=>h.o3.2.2.2.1 e.symm⟩
theorem RI.setPm (h:RI B w0 K vl rs S b2 b3 W) (hb:But (fun k=>k=K.mp) W W') {l:List (Bs × Nat)} (hm:CtS W' K.mp l):RI B w0 K vl rs { S with params:=l } b2 b3 W' :=
 h.but hb (h.ck.setPm hb hm) fun k hk=>by rw [hk];exact ⟨h.ck.ge.2.2.2.2,fun e=>h.o2.2.2.2.2.2.1 e.symm,fun e=>h.o3.2.2.2.2.2.1 e.symm⟩
theorem RI.other (h:RI B w0 K vl rs S b2 b3 W) {m:Nat} (hb:But (fun k=>k=m) W W') (ho:Off B K vl rs m) (h2:m ≠ b2) (h3:m ≠ b3):RI B w0 K vl rs S b2 b3 W' :=
 h.but hb (h.ck.but hb fun k hk=>by rw [hk];exact ho) fun k hk=>by rw [hk];exact ⟨ho.1,h2,h3⟩
theorem Off.geB {k:Nat} (h:Off B K vl rs k):B<=k:=h.1
theorem Off.moved {k r:Nat} {vl':Value} (h:Off B K vl rs k) (hk:k<W.heap.size) (hm:Moved W vl vl') (hr:W.heap.size<=r):Off B K vl' (rs++[r]) k:=by
 refine ⟨h.1,h.2.1,h.2.2.1,h.2.2.2.1,h.2.2.2.2.1,h.2.2.2.2.2.1,fun e=>?_,fun e=>?_⟩
 ·rcases hm with e' | ⟨q,e',hq⟩
  ·exact h.2.2.2.2.2.2.1 (e'.symm.trans e)
  ·rw [e'] at e;injection e with e;omega
 ·rcases List.mem_append.1 e with e | e
  ·exact h.2.2.2.2.2.2.2 e
  ·have:=List.mem_singleton.1 e;omega
theorem RI.labels (h:RI B w0 K vl rs S b2 b3 W) {vl':Value} {r:Nat} {S':CS} (hck:Ck B W' K vl' (rs++[r]) S') (hb:But (fun k=>k=K.cb\/k=K.ms\/vl.ownBlock=some k) W W') (hr:W.heap.size<=r) (hm:Moved W vl vl'):RI B w0 K vl' (rs++[r]) S' b2 b3 W':=by
 have hF:∀ k,(k=K.cb\/k=K.ms\/vl.ownBlock=some k)->B<=k:=fun k hk=>by
  rcases hk with hk | hk | hk
  ·rw [hk];exact h.ck.ge.1
  ·rw [hk];exact h.ck.ge.2.2.2.1
  ·exact (h.ck.lb.lt k hk).1
 have hbl:=hb.below h.ck.size hF
 have hno:∀ k,Off B K vl rs k->¬ (k=K.cb\/k=K.ms\/vl.ownBlock=some k):=fun k ho e=>by
  rcases e with e | e | e
  ·exact ho.2.1 e
  ·exact ho.2.2.2.2.1 e
  ·exact ho.2.2.2.2.2.2.1 e
 exact ⟨hck,h.pr.step hbl,h.z.keep (hb.block _ h.z.lt (hno _ h.o2)),h.pb.keep (hb.block _ h.pb.lt (hno _ h.o3)),h.bel.trans hbl,h.o2.moved h.z.lt hm hr,h.o3.moved h.pb.lt hm hr⟩
theorem NmS.off {l:List Bs} {m:Nat} (hn:NmS W m l) (ho:Off B K vl rs m) (hb:But (fun k=>k=K.cb\/k=K.ms\/vl.ownBlock=some k) W W'):NmS W' m l :=
 hn.keep (hb.block m hn.lt fun e=>by
  rcases e with e | e | e
  ·exact ho.2.1 e
  ·exact ho.2.2.2.2.1 e
  ·exact ho.2.2.2.2.2.2.1 e)
structure FL (B:Nat) (w0:World) (K:CK) (vl:Value) (rs:List Nat) (S:CS) (b2 b3 fm:Nat) (seen:List Bs) (W:World):Prop where
 ri:RI B w0 K vl rs S b2 b3 W
 nm:NmS W fm seen
 of:Off B K vl rs fm
 n2:fm ≠ b2
 n3:fm ≠ b3
variable {fm:Nat} {seen:List Bs}
theorem FL.below (h:FL B w0 K vl rs S b2 b3 fm seen W) (hb:Below W.heap.size W W'):FL B w0 K vl rs S b2 b3 fm seen W':=⟨h.ri.below hb,h.nm.keep (hb.block fm h.nm.lt),h.of,h.n2,h.n3⟩
theorem FL.drew (h:FL B w0 K vl rs S b2 b3 fm seen W):FL B w0 K vl rs S b2 b3 fm seen W.drew:=h.below (Below.refl _ _).drew
theorem FL.decl (h:FL B w0 K vl rs S b2 b3 fm seen W) {l:List Bs} (hm:NmS W' fm l) (hb:But (fun k=>k=fm) W W'):FL B w0 K vl rs S b2 b3 fm l W':=⟨h.ri.other hb h.of h.n2 h.n3,hm,h.of,h.n2,h.n3⟩
theorem FL.other (h:FL B w0 K vl rs S b2 b3 fm seen W) {m:Nat} (hb:But (fun k=>k=m) W W') (ho:Off B K vl rs m) (h2:m ≠ b2) (h3:m ≠ b3) (hf:m ≠ fm):FL B w0 K vl rs S b2 b3 fm seen W' :=
 ⟨h.ri.other hb ho h2 h3,h.nm.keep (hb.block fm h.nm.lt fun e=>hf e.symm),h.of,h.n2,h.n3⟩
theorem FL.setPm (h:FL B w0 K vl rs S b2 b3 fm seen W) (hb:But (fun k=>k=K.mp) W W') {l:List (Bs × Nat)} (hm:CtS W' K.mp l):FL B w0 K vl rs { S with params:=l } b2 b3 fm seen W' :=
 ⟨h.ri.setPm hb hm,h.nm.keep (hb.block fm h.nm.lt fun e=>h.of.2.2.2.2.2.1 e),h.of,h.n2,h.n3⟩
theorem FL.labels (h:FL B w0 K vl rs S b2 b3 fm seen W) {vl':Value} {r:Nat} {S':CS} (hck:Ck B W' K vl' (rs++[r]) S') (hb:But (fun k=>k=K.cb\/k=K.ms\/vl.ownBlock=some k) W W') (hr:W.heap.size<=r) (hm:Moved W vl vl'):FL B w0 K vl' (rs++[r]) S' b2 b3 fm seen W' :=
 ⟨h.ri.labels hck hb hr hm,h.nm.off h.of hb,h.of.moved h.nm.lt hm hr,h.n2,h.n3⟩
theorem FL.start (h:RI B w0 K vl rs S b2 b3 W):FL B w0 K vl rs S b2 b3 W.heap.size [] (W.alloc (.map #[] 0)) :=
 ⟨h.below (bA),NmS.new W,h.ck.apart lrf,by have:=h.z.lt;omega,by have:=h.pb.lt;omega⟩
theorem BxL.bum {t:TypeId} {b m:Nat} {cs:List Value} (h:BxL t b cs W) (hb:But (fun k=>k=m) W W') {d:List Ent} (hm:MapS W m d):BxL t b cs W':=h.keep (hb.block b h.lt fun e=>MapS.not_cells hm (e ▸ h))
theorem funcsM_cons (ch ar:List Bs) (seen:List Bs) (ls:List (List Bs)) (st:List Bs) (f:Fu) (r:List Fu):funcsM ch ar seen ls st (f :: r) =
  if namedB f.nm=false then .error (f.pos,4) else if seen.contains f.nm then .error (f.pos,8) else
  if 32<f.params.length then .error (f.pos,5) else
  match declM f.pos [] f.params with
  | some x => .error x
  | none=>exS (instrsM ch ar false f.pos f.code st) fun l s=>funcsM ch ar (seen++[f.nm]) (ls++[l]) s r:=by
 conv=>lhs;unfold funcsM
 split
 ·rfl
 ·split
  ·rfl
  ·split
   ·rfl
   ·cases declM f.pos [] f.params with
    | some x=>rfl
    | none =>
     cases instrsM ch ar false f.pos f.code st with
     | error x=>rfl
     | ok q=>obtain ⟨a,b⟩:=q;rfl
def cntL (l:List Fu):List (Bs × Nat):=l.map fun f=>(f.nm,f.params.length)
theorem cnt_get (l:List Fu) (s:Bs):getC (cntL l) s=(l.find? fun f=>decide (f.nm=s)).map fun f=>f.params.length:=by
 unfold getC cntL
 rw [List.find?_map]
 simp only [Function.comp_def,Option.map_map]
theorem cnt_params (p:Pg) (s:Bs):getC (cntL p.funcs) s=paramsOf p s:=cnt_get _ _
theorem cnt_fresh (l:List Fu) (s:Bs) (h:(l.map Fu.nm).contains s=false):getC (cntL l) s=none:=by
 rw [cnt_get,List.find?_eq_none.2]
 ·rfl
 intro f hf hc
 have h1:f.nm=s:=by simpa using hc
 have h2:(l.map Fu.nm).contains s=true:=by rw [List.contains_iff_mem,<- h1];exact List.mem_map_of_mem hf
 rw [h2] at h;cases h
theorem cnt_snoc (l:List Fu) (f:Fu):cntL (l++[f])=cntL l++[(f.nm,f.params.length)]:=by simp [cntL]
theorem step_ne0 {ch ar:List Bs} {mn:Bool} {l s:List Bs} {x:In} {f:Flt} (h:stepM ch ar mn l s x=.error f):f.2 ≠ 0:=by
 unfold stepM at h
 split at h
 ·cases h;simp
 split at h
 ·split at h <;> cases h;simp
 split at h
 ·split at h <;> cases h;simp
 split at h
 ·split at h <;> cases h;simp
 split at h
 ·split at h
  ·cases h
  ·split at h <;> cases h;simp
 ·cases h
theorem body_ne0 {ch ar:List Bs} {mn:Bool}:∀ (c:List In) (l s:List Bs) (f:Flt),bodyM ch ar mn c l s=.error f->f.2 ≠ 0
 | [],_,_,_,h=>by cases h
 | x :: r,l,s,f,h=>by
  unfold bodyM at h
  cases e:stepM ch ar mn l s x with
  | error y=>rw [e] at h;cases h;exact step_ne0 e
  | ok q=>obtain ⟨a,b⟩:=q;rw [e] at h;exact body_ne0 r a b f h
theorem instrs_ne0 {ch ar:List Bs} {mn:Bool} {pos:Int × Int} {c:List In} {s:List Bs} {f:Flt} (h:instrsM ch ar mn pos c s=.error f):f.2 ≠ 0:=by
 unfold instrsM at h
 split at h
 ·cases h;simp
 ·exact body_ne0 _ _ _ _ h
theorem target_ne0 {p:Pg} {l:List Bs} {x:In} {f:Flt} (h:targetM p l x=some f):f.2 ≠ 0:=by
 unfold targetM at h
 split at h
 ·split at h <;> cases h;simp
 split at h
 ·split at h
  ·cases h;simp
  ·split at h <;> cases h;simp
 ·cases h
theorem targets_ne0 {p:Pg} {l:List Bs}:∀ (c:List In) (f:Flt),targetsM p l c=some f->f.2 ≠ 0
 | [],_,h=>by cases h
 | x :: r,f,h=>by
  unfold targetsM at h
  cases e:targetM p l x with
  | some y=>rw [e] at h;cases h;exact target_ne0 e
  | none=>rw [e] at h;exact targets_ne0 r f h
theorem targets_called {p:Pg} {lb:List Bs}:∀ l,targetsM p lb l=none->∀ x ∈ l,x.kind=4->x.nm ∈ namesP p
 | [],_,x,hx,_=>by cases hx
 | y :: r,h,x,hx,hk=>by
  unfold targetsM at h
  cases e:targetM p lb y with
  | some f=>rw [e] at h;cases h
  | none =>
   rw [e] at h
   rcases List.mem_cons.1 hx with hx | hx
   ·subst hx
    unfold targetM at e
    rw [if_neg (by omega),if_pos hk] at e
    unfold paramsOf at e
    cases e2:p.funcs.find? fun f=>decide (f.nm=x.nm) with
    | none=>rw [e2] at e;cases e
    | some f =>
     have h1:=List.find?_some e2
     exact List.mem_map.2 ⟨f,List.mem_of_find?_eq_some e2,by simpa using h1⟩
   ·exact targets_called r h x hx hk
theorem later_called {p:Pg}:∀ (l:List Fu) (ls:List (List Bs)),laterM p ls l=none->∀ f ∈ l,∀ x ∈ f.code,x.kind=4->x.nm ∈ namesP p
 | [],_,_,f,hf,_=>by cases hf
 | g :: r,ls,h,f,hf,x=>by
  unfold laterM at h
  cases e:targetsM p (ls.headD []) g.code with
  | some y=>rw [e] at h;cases h
  | none =>
   rw [e] at h
   rcases List.mem_cons.1 hf with hf | hf
   ·subst hf;exact targets_called f.code e x
   ·exact later_called r _ h f hf x
theorem closed_later {p:Pg} {ls:List (List Bs)} (h:laterM p ls p.funcs=none):Closed p:=by
 intro a b hb
 unfold callsM at hb
 obtain ⟨x,hx,rfl⟩:=List.mem_map.1 hb
 obtain ⟨hx1,hx2⟩:=List.mem_filter.1 hx
 unfold codeOf at hx1
 cases e:p.funcs.find? fun f=>decide (f.nm=a) with
 | none=>rw [e] at hx1;simp at hx1
 | some f =>
  rw [e] at hx1
  exact later_called p.funcs ls h f (List.mem_of_find?_eq_some e) x (by simpa using hx1) (by simpa using hx2)
theorem funcs_len {ch ar:List Bs}:∀ (l:List Fu) (seen:List Bs) (ls:List (List Bs)) (st:List Bs) (ls':List (List Bs)) (st':List Bs),funcsM ch ar seen ls st l=.ok (ls',st')->ls'.length=ls.length+l.length/\∀ f ∈ l,f.code.length<=1024
 | [],seen,ls,st,ls',st',h=>by cases h;exact ⟨rfl,by simp⟩
 | f :: r,seen,ls,st,ls',st',h=>by
  rw [funcsM_cons] at h
  split at h
  ·cases h
  split at h
  ·cases h
  split at h
  ·cases h
  cases e:declM f.pos [] f.params with
  | some x=>rw [e] at h;cases h
  | none =>
   rw [e] at h
   cases e2:instrsM ch ar false f.pos f.code st with
   | error x=>rw [e2] at h;cases h
   | ok q =>
    obtain ⟨a,b⟩:=q
    rw [e2] at h
    obtain ⟨h1,h2⟩:=funcs_len r _ _ _ _ _ h
    refine ⟨by rw [h1,List.length_append,List.length_cons];simp only [List.length_cons,List.length_nil];omega,fun g hg=>?_⟩
    rcases List.mem_cons.1 hg with hg | hg
    ·subst hg
     unfold instrsM at e2
     split at e2
     ·cases e2
     ·omega
    ·exact h2 g hg
theorem laterM_cons (p:Pg) (l:List Bs) (ls:List (List Bs)) (f:Fu) (r:List Fu):laterM p (l :: ls) (f :: r)=match targetsM p l f.code with | some x=>some x | none=>laterM p ls r:=rfl
theorem loopsAllM_cons (p:Pg) (f:Fu) (r:List Fu):loopsAllM p (f :: r)=if loopB p f.nm then some (f.pos,9) else loopsAllM p r:=rfl
theorem SlG.via {α:Type} {K:EK α} {v:Value} {l:List α} (h:SlG K (·<B) W v l) (hb:Below B w0 W) (hb':Below B w0 W'):SlG K (·<B) W' v l:=h.keep fun k hk=>⟨hk,(hb'.block k hk).trans (hb.block k hk).symm⟩
theorem Ck.label {w:World} {p:Option Addr} {n c:Nat} (h:Ck B w K (.slice p n c) rs S) (hn:rs.length=n) (hn':n<=1000) (h0:0<n):∃ b off,p=some ⟨b,off,none⟩/\∀ k (hk:k<S.labels.length),∃ r,w.cell? ⟨b,off+k,none⟩=some (.map (some r))/\NmS w r S.labels[k]:=by
 obtain ⟨b,off,e,_,hc⟩:=(h.lb.sl (by omega)).at (by omega)
 refine ⟨b,off,e,fun k hk=>?_⟩
 have hk':k<rs.length:=by rw [h.rl];exact hk
 obtain ⟨cs,h1,h2⟩:=hc k hk'
 subst h1
 exact ⟨rs[k],by have:=h2 0 _ rfl;simpa [kMap] using this,h.lm k hk hk'⟩
theorem Ck.label' {w:World} {b off n c:Nat} (h:Ck B w K (.slice (some ⟨b,off,none⟩) n c) rs S) (hn:rs.length=n) (hn':n<=1000) (k:Nat) (hk:k<S.labels.length):∃ r,w.cell? ⟨b,off+k,none⟩=some (.map (some r))/\NmS w r S.labels[k]:=by
 obtain ⟨b',off',e,h1⟩:=h.label hn hn' (by have:=h.rl;omega)
 cases e
 exact h1 k hk
theorem cellB {B:Nat} {w w':World} (h:Below B w w') {a:Addr} {v:Value} (hc:w.cell? a=some v) (hB:w.heap.size<=B):w'.cell? a=some v:=by
 have hlt:a.block<w.heap.size:=by
  unfold World.cell? at hc
  cases e:w.heap[a.block]? with
  | none=>simp [e] at hc
  | some o=>exact (Array.getElem?_eq_some_iff.1 e).1
 rw [h.cell (Nat.lt_of_lt_of_le hlt hB)];exact hc
theorem laterM_nil (p:Pg) (ls:List (List Bs)):laterM p ls []=none:=by cases ls <;> rfl
def RunPost (B:Nat) (p:Pg) (w:World) (e:Ending) (w':World):Prop:=(if (checkM p).2=0 then e=.returned (.tuple #[])/\checkM p=((0,0),0) else e=.panicked (fltC (checkM p)))/\Below B w w'
theorem RunPost.bad {p:Pg} {f:Flt} {w w':World} (h:checkM p=f) (h0:f.2 ≠ 0) (hb:Below B w w'):RunPost B p w (.panicked (fltC f)) w':=⟨by rw [h,if_neg h0],hb⟩
theorem RunPost.ok {p:Pg} {w w':World} (h:checkM p=((0,0),0)) (hb:Below B w w'):RunPost B p w (.returned (.tuple #[])) w':=⟨by rw [if_pos (by rw [h])];exact ⟨rfl,h⟩,hb⟩
structure PgOk (p:Pg):Prop where
 funcs:∀ f ∈ p.funcs,∀ x ∈ f.code,x.kind<=255/\x.op<=255
 main:∀ x ∈ p.main,x.kind<=255/\x.op<=255
end Go.Proofs.YtoofbgoeipijcaaGreatDoor
