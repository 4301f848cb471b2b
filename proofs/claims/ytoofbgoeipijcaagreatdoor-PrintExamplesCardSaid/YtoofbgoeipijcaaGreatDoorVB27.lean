/-
 A part.
-/
import Derived.Test.YtoofbgoeipijcaaGreatDoorVB11
namespace Go.Proofs.YtoofbgoeipijcaaGreatDoor
set_option linter.all false
open Go.RowKit Go.Shelf
theorem decl_nodup (pos:Int × Int):∀ (l seen:List Bs),declM pos seen l=none->l.Nodup/\∀ s ∈ l,s ∉ seen/\namedB s=true
 | [],seen,_=>⟨List.nodup_nil,by simp⟩
 | s :: r,seen,h=>by
  simp only [declM] at h
  split at h
  ·cases h
  ·rename_i h1
   split at h
   ·cases h
   ·rename_i h2
    obtain ⟨h3,h4⟩:=decl_nodup pos r _ h
    have hs:s ∉ seen:=fun e=>h2 (List.contains_iff_mem.2 e)
    refine ⟨List.nodup_cons.2 ⟨fun e=>(h4 s e).1 (by simp),h3⟩,fun x hx=>?_⟩
    rcases List.mem_cons.1 hx with e | e
    ·subst e;exact ⟨hs,by simpa using h1⟩
    ·exact ⟨fun e'=>(h4 x e).1 (List.mem_append_left _ e'),(h4 x e).2⟩
def rloopsM (p:Pg):Nat->List Fu->Option Flt
 | _,[]=>none
 | i,f :: r=>if rloopB p i then some (f.pos,9) else rloopsM p (i+1) r
theorem loopsAll_eq (p:Pg) (hc:Closed p) (hd:Apart p):∀ (l:List Fu) (i:Nat),p.funcs.drop i=l->loopsAllM p l=rloopsM p i l
 | [],i,_=>rfl
 | f :: r,i,h=>by
  have hi:i<p.funcs.length:=by
   have:=congrArg List.length h
   simp at this;omega
  have hf:p.funcs[i]=f:=by
   have:=List.getElem_drop (xs:=p.funcs) (i:=i) (j:=0) (h:=by rw [h];simp)
   simp only [h] at this
   simpa using this.symm
  have hr:p.funcs.drop (i+1)=r:=by rw [<- List.tail_drop,h];rfl
  unfold loopsAllM rloopsM
  rw [<- hf,loop_eq p hc hd i hi,loopsAll_eq p hc hd r (i+1) hr]
def sitesP (p:Pg):List Bs:=sitesM [] (codes p.funcs++p.main)
def rcheckM (p:Pg):Flt :=
 if p.width<1\/64<p.width then ((0,0),3) else
 if rnamesM p.chans ≠ 0 then ((0,0),rnamesM p.chans) else
 if 32<p.arrays.length then ((0,0),5) else
 match rarrsM (p.arrays.map Ar.nm) 0 p.arrays with
 | some f=>f
 | none =>
 if 32<p.funcs.length then ((0,0),5) else
 match rfuncsM p.chans (p.arrays.map Ar.nm) (sitesP p) [] p.funcs with
 | some f=>f
 | none =>
 if 1024<p.main.length then ((0,0),5) else
 match rbodyM p.chans (p.arrays.map Ar.nm) (sitesP p) true p.main [] with
 | some f=>f
 | none =>
 match rlaterM p p.funcs with
 | some f=>f
 | none =>
 match rtargetsM p p.main p.main with
 | some f=>f
 | none =>
 match rloopsM p 0 p.funcs with
 | some f=>f
 | none=>((0,0),0)
theorem rtargets_call (p:Pg) (code:List In):∀ l,rtargetsM p code l=none->∀ x ∈ l,x.kind=4->x.nm ∈ namesP p
 | [],_,x,hx,_=>by cases hx
 | y :: r,h,x,hx,hk=>by
  unfold rtargetsM at h
  cases e:rtargetM p code y with
  | some f=>rw [e] at h;cases h
  | none =>
   rw [e] at h
   rcases List.mem_cons.1 hx with hx | hx
   ·subst hx
    unfold rtargetM at e
    rw [if_neg (by omega),if_pos hk] at e
    cases e2:p.funcs.find? fun f=>decide (f.nm=x.nm) with
    | none=>rw [e2] at e;cases e
    | some f =>
     have h1:=List.find?_some e2
     exact List.mem_map.2 ⟨f,List.mem_of_find?_eq_some e2,by simpa using h1⟩
   ·exact rtargets_call p code r h x hx hk
theorem rlater_closed (p:Pg):∀ l,rlaterM p l=none->∀ f ∈ l,∀ x ∈ f.code,x.kind=4->x.nm ∈ namesP p
 | [],_,f,hf,_=>by cases hf
 | g :: r,h,f,hf,x=>by
  unfold rlaterM at h
  cases e:rtargetsM p g.code g.code with
  | some y=>rw [e] at h;cases h
  | none =>
   rw [e] at h
   rcases List.mem_cons.1 hf with hf | hf
   ·subst hf;exact rtargets_call p f.code f.code e x
   ·exact rlater_closed p r h f hf x
theorem closed_of (p:Pg) (h:rlaterM p p.funcs=none):Closed p:=by
 intro a b hb
 unfold callsM at hb
 obtain ⟨x,hx,rfl⟩:=List.mem_map.1 hb
 obtain ⟨hx1,hx2⟩:=List.mem_filter.1 hx
 unfold codeOf at hx1
 cases e:p.funcs.find? fun f=>decide (f.nm=a) with
 | none=>rw [e] at hx1;simp at hx1
 | some f =>
  rw [e] at hx1
  exact rlater_closed p p.funcs h f (List.mem_of_find?_eq_some e) x (by simpa using hx1) (by simpa using hx2)
theorem check_eq (p:Pg):checkM p=rcheckM p:=by
 unfold checkM rcheckM
 by_cases c1:p.width<1\/64<p.width
 ·rw [if_pos c1,if_pos c1]
 rw [if_neg c1,if_neg c1]
 by_cases c2:32<p.chans.length
 ·have e:rnamesM p.chans=5:=by unfold rnamesM;rw [if_pos c2]
  have e':rnamesM p.chans ≠ 0:=by rw [e];decide
  rw [if_pos c2,if_pos e',e]
 rw [if_neg c2]
 cases hc:declM (0,0) [] p.chans with
 | some f =>
  obtain ⟨e1,e2⟩:=rnames_some (by omega) hc
  rw [if_pos e2,<- e1]
 | none =>
 have e0:¬ rnamesM p.chans ≠ 0:=by rw [decl_none (by omega) hc];simp
 rw [if_neg e0]
 by_cases c3:32<p.arrays.length
 ·simp only [if_pos c3]
 simp only [if_neg c3]
 have ha:arrsM [] p.arrays=rarrsM (p.arrays.map Ar.nm) 0 p.arrays:=arrs_eq (p.arrays.map Ar.nm) (by simp;omega) p.arrays 0 (by simp) (by simp) rfl
 rw [ha]
 cases rarrsM (p.arrays.map Ar.nm) 0 p.arrays with
 | some f=>rfl
 | none =>
 simp only
 by_cases c4:32<p.funcs.length
 ·simp only [if_pos c4]
 simp only [if_neg c4]
 have hf:=funcs_eq p.chans (p.arrays.map Ar.nm) (sitesP p) p.funcs [] [] [] p.main rfl (by simp) rfl (by simp;omega)
 cases e:funcsM p.chans (p.arrays.map Ar.nm) [] [] [] p.funcs with
 | error f=>rw [e] at hf;simp only at hf ⊢;rw [hf]
 | ok q =>
 obtain ⟨ls,s⟩:=q
 rw [e] at hf
 obtain ⟨h1,h2,h3,h4,h5⟩:=hf
 simp only [h1]
 unfold instrsM
 by_cases c5:1024<p.main.length
 ·simp only [if_pos c5]
 simp only [if_neg c5]
 have hb:=body_eq p.chans (p.arrays.map Ar.nm) (sitesP p) true p.main [] s [] (by rw [h3,<- sites_append,List.append_nil];rfl) h4
 cases e2:bodyM p.chans (p.arrays.map Ar.nm) true p.main [] s with
 | error f=>rw [e2] at hb;simp only at hb ⊢;rw [hb]
 | ok q =>
 obtain ⟨ml,s2⟩:=q
 rw [e2] at hb
 obtain ⟨b1,b2,b3,b4⟩:=hb
 simp only [b1]
 rw [h2,List.nil_append,later_eq]
 cases e3:rlaterM p p.funcs with
 | some f=>rfl
 | none =>
 simp only
 rw [b2,targets_eq]
 cases rtargetsM p p.main p.main with
 | some f=>rfl
 | none =>
 simp only
 have hd:Apart p:=(decl_nodup _ _ _ h5).1
 rw [loopsAll_eq p (closed_of p e3) hd p.funcs 0 rfl]
 cases rloopsM p 0 p.funcs <;> rfl
open Go.RowKit
theorem wpIn_apd {F:Fence} {n0:Nat} {P:Program} {w:World} (hF:∀ f,F.fn f) {R:Nat->Prop} {o:Oper} {a:Act} {K:Act->World->Prop} {Q:Exit->Act->World->Prop} (s x:Operand) (t:TypeId)
  (ho:o.op=.call { callee := .builtin .append,args:=#[s,x],argTypes:=#[t,t] })
  (base:Nat) (e:TypeId) (z:Value) (bytes:Nat) (ht:P.underlying t=some (.slice e))
  (hinfo:(P.info? e).map (fun i=>(i.zero,i.size,i.bytes))=some (some z,1,bytes)) (hzs:z.cells.size=1)
  (v:Value) (n:Nat) (xs:List Value) (hs:a.eval s=v) (hown:w.ownsRow base e 1 v n xs)
  (p:Option Addr) (m c:Nat) (news:List Value) (hx:a.eval x=.slice p m c) (hm:m=news.length) (hr:RowR R w p news) (h1:∀ u ∈ news,u.oneCell'=true)
  (hsz:(n+m)*bytes<=140737488355328) (h63:n+m<=maxLen) (hbase:base<=w.heap.size)
  (h:∀ v' w',w'.ownsRow base e 1 v' (n+m) (xs++news)->w.grownBy w' v.ownBlock->(v'.ownBlock=v.ownBlock\/v'.ownBlock=some w.heap.size)->K (a.put o.dst v') w'):o.wpIn F n0 P a w K Q:=by
 obtain ⟨v',w',hrun,h2,h3,h4⟩:=run_app (P:=P) w base t o.type e z bytes ht hinfo hzs v n xs hown p m c news hm hr h1 hsz h63 hbase
 refine ⟨fun f _=>hF f,?_⟩
 rw [Oper.semAt_eq _ _ _ (fun c e=>by rw [ho] at e;cases e)]
 unfold execOp
 simp only [ho,resolve,invoke,builtin,Sem.run_bind,Sem.run_pure,Result.andThen_ok,List.map_toArray,List.map_cons,List.map_nil,hs,hx,hrun,Oper.uponIn]
 exact h v' w' h2 h3 h4
section
variable {Fe:Fence} {n:Nat} {P:Program} {ops:Array Oper} {Q:Exit->Act->World->Prop} {md:Region.Mode} {S:World->Prop}
end
end Go.Proofs.YtoofbgoeipijcaaGreatDoor
