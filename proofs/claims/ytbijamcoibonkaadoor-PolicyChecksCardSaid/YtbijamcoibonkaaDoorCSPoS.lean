/-
 Policies, plainly: what is read is valid, and its text is not longer than what was read; a fault stands in the text (no program in sight).
-/
import Derived.Test.YtbijamcoibonkaaDoorCB21
namespace Go.Proofs.YtbijamcoibonkaaDoor
set_option linter.unusedSimpArgs false
set_option linter.unusedVariables false
open Go.RowKit Go.Shelf
def lineZ (l:List Bs):Nat:=(l.map fun w=>w.length+1).sum
def zl (L:List (List Bs)):Nat:=(L.map lineZ).sum
theorem zl_app (a b:List (List Bs)):zl (a++b)=zl a+zl b:=by simp [zl]
theorem jn_lenZ:∀ (l:List Bs),l ≠ []→(jn l).length+1=lineZ l
 | [],h=>absurd rfl h
 | [w],_=>by rw [jn_one];simp [lineZ]
 | w :: v :: r,_=>by
  have:=jn_lenZ (v :: r) (by simp)
  rw [jn_cons2]
  simp only [List.length_append,List.length_cons]
  have e:lineZ (w :: v :: r)=w.length+1+lineZ (v :: r):=by simp [lineZ]
  omega
def wz (l:List Wd):Nat:=lineZ (l.map (·.1))
theorem numGo_ltZ:∀ (s:Bs) (a n:Nat),s.all digB=true→numGo s a=(n,0)→n<(a+1)*10 ^ s.length
 | [],a,n,_,h=>by injection h with h _;subst h;simp
 | c :: r,a,n,hd,h=>by
  rw [numGo_cons] at h
  split at h
  ·cases h
  ·simp only [List.all_cons,Bool.and_eq_true] at hd
   have h1:=numGo_ltZ r _ n hd.2 h
   have hc:c.toNat - 48≤9:=by have:=hd.1;unfold digB at this;simp at this;omega
   rw [List.length_cons,Nat.pow_succ]
   refine Nat.lt_of_lt_of_le h1 ?_
   calc (10*a+(c.toNat - 48)+1)*10 ^ r.length≤((a+1)*10)*10 ^ r.length:=Nat.mul_le_mul_right _ (by omega)
    _=(a+1)*(10 ^ r.length*10):=by rw [Nat.mul_assoc,Nat.mul_comm 10]
theorem nd_leZ:∀ (L n:Nat),n<10 ^ (L+1)→Lib.nDigits n≤L+1
 | 0,n,h=>by rw [Lib.nDigits_small (by simpa using h)];omega
 | L+1,n,h=>by
  by_cases h10:n<10
  ·rw [Lib.nDigits_small h10];omega
  ·rw [Lib.nDigits_big h10]
   have:=nd_leZ L (n / 10) (by rw [Nat.div_lt_iff_lt_mul (by omega)];rw [Nat.pow_succ] at h;exact h)
   omega
theorem itoa_leZ {s:Bs} {n:Nat} (h:numR s=(n,0)):(Lib.itoa (n:Int)).length≤s.length:=by
 have e:Lib.itoa (n:Int)=Lib.decDigits n:=by unfold Lib.itoa;rw [if_neg (by omega)];rfl
 rw [e,Lib.decDigits_length]
 unfold numR at h
 split at h
 ·cases h
 rename_i hl
 split at h
 ·rename_i ha
  have h1:=numGo_ltZ s 0 n ha h
  have h2:s.length=(s.length - 1)+1:=by omega
  rw [h2]
  exact nd_leZ _ _ (by rw [← h2];simpa using h1)
 ·cases h
def tailW (p:Po):List (List Bs):=[[kMode,if p.sens then kSens else kInsens],[kSteps,Lib.itoa p.steps],[kPaths,Lib.itoa p.paths],[kNodes,Lib.itoa p.nodes],[kConf,Lib.itoa p.conf]]
def linesK (p:Po) (k:Nat):List (List Bs) :=
 p.lv.map (fun s=>[kLevel,s])++p.od.map (fun o=>[kOrder,p.lv.getD o.1.toNat [],p.lv.getD o.2.toNat []])++p.ch.map (lineW p kChan)++p.st.map (lineW p kSite)++(tailW p).take (k - 3)
structure VS (st:LS) (Z:Nat):Prop where
 k8:st.k≤8
 lv:(∀ s ∈ st.p.lv,nameB s=true)∧st.p.lv.Nodup∧st.p.lv.length≤32
 ne:1≤st.k→st.p.lv ≠ []
 od0:st.k=0→st.p.od=[]
 lat:1<st.k→latE st.p.lv.length st.p.od=0
 or:st.k≤1→st.ord=false
 ch:st.p.ch.length≤32∧(∀ b ∈ st.p.ch,nameB b.1=true∧0≤b.2∧b.2<(st.p.lv.length:Int))∧(st.p.ch.map (·.1)).Nodup
 ch0:st.k≤1→st.p.ch=[]
 si:st.p.st.length≤32∧(∀ b ∈ st.p.st,nameB b.1=true∧0≤b.2∧b.2<(st.p.lv.length:Int))∧(st.p.st.map (·.1)).Nodup
 st0:st.k≤2→st.p.st=[]
 n5:5≤st.k→1≤st.p.steps∧st.p.steps≤65536
 n6:6≤st.k→1≤st.p.paths∧st.p.paths≤4096
 n7:7≤st.k→0≤st.p.nodes∧st.p.nodes≤1048576
 n8:8≤st.k→0≤st.p.conf∧st.p.conf≤1099511627776
 sz:zl (linesK st.p st.k)≤Z
theorem VS.zero:VS ls0 0:=⟨Nat.zero_le _,⟨fun s hs=>(by cases hs),List.nodup_nil,Nat.zero_le _⟩,fun h=>absurd h (by decide),fun _=>rfl,fun h=>absurd h (by decide),fun _=>rfl,⟨Nat.zero_le _,fun s hs=>(by cases hs),List.nodup_nil⟩,fun _=>rfl,
 ⟨Nat.zero_le _,fun s hs=>(by cases hs),List.nodup_nil⟩,fun _=>rfl,fun h=>absurd h (by decide),fun h=>absurd h (by decide),fun h=>absurd h (by decide),fun h=>absurd h (by decide),Nat.le_refl _⟩
theorem orderQ_spec {st st1:LS} (h:orderQ st = .ok st1):st1.p=st.p∧st1.k=st.k∧st1.last=st.last∧(st.ord=false→st.p.lv ≠ []→latE st.p.lv.length st.p.od=0):=by
 unfold orderQ at h
 split at h
 ·rename_i q
  injection h with h;subst h
  refine ⟨rfl,rfl,rfl,fun h1 h2=>?_⟩
  rw [h1] at q
  cases hl:st.p.lv with
  | nil=>exact absurd hl h2
  | cons a b=>rw [hl] at q;cases q
 ·split at h
  ·cases h
  ·rename_i q
   injection h with h;subst h
   exact ⟨rfl,rfl,rfl,fun _ _=>by simpa using q⟩
theorem line_parts {st st':LS} {ws:List Wd} (h:lineQ st ws = .ok st'):∃ m st1,stepP (ws.headD wd0).1 st.k=some m∧(st.p.lv ≠ []∨m=0)∧st1.p=st.p∧st1.k=st.k∧st1.last=st.last∧(1<m→st.k≤1→st.ord=false→latE st.p.lv.length st.p.od=0)∧(m≤1→st1.ord=st.ord)∧bodyQ st1 ws m = .ok st':=by
 unfold lineQ at h
 cases hq:kindQ st (ws.headD wd0) with
 | none =>
  rw [hq] at h
  simp only [bind,Except.bind] at h
  repeat' split at h
  all_goals cases h
 | some m =>
  rw [hq] at h
  have hs:stepP (ws.headD wd0).1 st.k=some m∧(st.p.lv ≠ []∨m=0):=by
   unfold kindQ at hq
   split at hq
   ·cases hq
   ·rename_i q
    refine ⟨hq,?_⟩
    rw [hq] at q
    by_cases e:st.p.lv=[]
    ·right
     rw [e] at q
     simpa using q
    ·exact .inl e
  refine ⟨m,?_⟩
  by_cases hh:(highB (some m) && decide (st.k≤1))=true
  ·simp only [if_pos hh,bind,Except.bind] at h
   cases ho:orderQ st with
   | error e=>rw [ho] at h;cases h
   | ok st1 =>
    rw [ho] at h
    obtain ⟨a,b,c,d⟩:=orderQ_spec ho
    simp [highB] at hh
    exact ⟨st1,hs.1,hs.2,a,b,c,fun h1 _ h3=>d h3 (hs.2.resolve_right (by omega)),fun h1=>by omega,h⟩
  ·simp only [if_neg hh,bind,Except.bind] at h
   refine ⟨st,hs.1,hs.2,rfl,rfl,rfl,fun h1 h2 _=>?_,fun _=>rfl,h⟩
   exact absurd (by simp [highB,h1,h2]) hh
theorem nodup_snoc {l:List Bs} {x:Bs} (h:l.Nodup) (hx:x ∉ l):(l++[x]).Nodup :=
 List.nodup_append.2 ⟨h,by simp,fun a ha b hb=>by rw [List.mem_singleton] at hb;subst hb;exact fun e=>hx (e ▸ ha)⟩
theorem line_vs {st st':LS} {ws:List Wd} {Z:Nat} (h:VS st Z) (hl:lineQ st ws = .ok st'):VS st' (Z+wz ws):=by
 obtain ⟨m,st1,hs,hne,hp,hk,_,hlat,hord,hb⟩:=line_parts hl
 obtain ⟨h1,h2,h3,h4⟩:=step_spec h.k8 hs
 obtain ⟨hd,ek,eo⟩:=did_of h2 hb
 rw [hp] at hd
 have hsz:=h.sz
 obtain ⟨p',k',last',ord'⟩:=st'
 dsimp only at hd ek eo
 subst ek
 have hlt:1<k'→latE st.p.lv.length st.p.od=0:=fun q=>by
  by_cases hk1:st.k≤1
  ·exact hlat q hk1 (h.or hk1)
  ·exact h.lat (by omega)
 have hor:k'≤1→ord'=false:=fun q=>by rw [eo,hord q];exact h.or (by omega)
 have hz:∀ x:Wd,ws.headD wd0=x→x.1=(kindL.getD k' ([],false)).1:=fun x e=>by rw [← e];exact h3
 cases hd with
 | level x y hw g1 g2 g3 =>
  have k0:st.k=0:=by omega
  have ex:x.1=kLevel:=hz x (by rw [hw];rfl)
  have e1:=h.od0 k0;have e2:=h.ch0 (by omega);have e3:=h.st0 (by omega)
  refine ⟨Nat.zero_le _,⟨fun s hs=>?_,nodup_snoc h.lv.2.1 g2,by simp;omega⟩,fun q=>absurd q (by dsimp only;omega),fun _=>e1,fun q=>absurd q (by dsimp only;omega),hor,?_,fun _=>e2,?_,fun _=>e3,fun q=>absurd q (by dsimp only;omega),fun q=>absurd q (by dsimp only;omega),fun q=>absurd q (by dsimp only;omega),fun q=>absurd q (by dsimp only;omega),?_⟩
  ·rcases List.mem_append.1 hs with hs | hs
   ·exact h.lv.1 s hs
   ·rw [List.mem_singleton] at hs;subst hs;exact g1
  ·dsimp only;rw [e2];exact ⟨Nat.zero_le _,fun s hs=>(by cases hs),List.nodup_nil⟩
  ·dsimp only;rw [e3];exact ⟨Nat.zero_le _,fun s hs=>(by cases hs),List.nodup_nil⟩
  ·rw [k0] at hsz
   subst hw
   simp [linesK,e1,e2,e3,zl,lineZ,wz,ex] at hsz ⊢
   omega
 | order x y z i j hw g1 g2 g3 =>
  have ex:x.1=kOrder:=hz x (by rw [hw];rfl)
  have e2:=h.ch0 (by omega);have e3:=h.st0 (by omega)
  refine ⟨by omega,h.lv,fun _=>hne.resolve_right (by omega),fun q=>absurd q (by dsimp only;omega),fun q=>absurd q (by dsimp only;omega),hor,?_,fun _=>e2,?_,fun _=>e3,fun q=>absurd q (by dsimp only;omega),fun q=>absurd q (by dsimp only;omega),fun q=>absurd q (by dsimp only;omega),fun q=>absurd q (by dsimp only;omega),?_⟩
  ·dsimp only;rw [e2];exact ⟨Nat.zero_le _,fun s hs=>(by cases hs),List.nodup_nil⟩
  ·dsimp only;rw [e3];exact ⟨Nat.zero_le _,fun s hs=>(by cases hs),List.nodup_nil⟩
  ·have ek:st.k - 3=0:=by omega
   subst hw
   simp only [linesK,lineW,ek,List.take_zero,e2,e3,List.map_nil,List.append_nil] at hsz
   simp only [linesK,e2,e3,List.map_nil,List.append_nil,List.map_append,List.map_cons,g1.2.2,g2.2.2,zl_app,wz,ex,show 1 - 3=0 from rfl,List.take_zero] at hsz ⊢
   simp only [zl,List.map_cons,List.map_nil,List.sum_cons,List.sum_nil,List.map_append,List.sum_append] at hsz ⊢
   omega
 | chan x y z i hw g1 g2 g3 g4 =>
  have ex:x.1=kChan:=hz x (by rw [hw];rfl)
  have e3:=h.st0 (by omega)
  have hnn:st.p.lv ≠ []:=hne.resolve_right (by omega)
  refine ⟨by omega,h.lv,fun _=>hnn,fun q=>absurd q (by dsimp only;omega),fun _=>hlt (by omega),hor,⟨by simp;omega,fun b hb=>?_,?_⟩,fun q=>absurd q (by dsimp only;omega),?_,fun _=>e3,fun q=>absurd q (by dsimp only;omega),fun q=>absurd q (by dsimp only;omega),fun q=>absurd q (by dsimp only;omega),fun q=>absurd q (by dsimp only;omega),?_⟩
  ·rcases List.mem_append.1 hb with hb | hb
   ·exact h.ch.2.1 b hb
   ·rw [List.mem_singleton] at hb;subst hb;exact ⟨g1,g3.1,g3.2.1⟩
  ·rw [List.map_append];exact nodup_snoc h.ch.2.2 g2
  ·dsimp only;rw [e3];exact ⟨Nat.zero_le _,fun s hs=>(by cases hs),List.nodup_nil⟩
  ·have ek:st.k - 3=0:=by omega
   subst hw
   simp only [linesK,lineW,ek,List.take_zero,e3,List.map_nil,List.append_nil] at hsz
   simp only [linesK,lineW,e3,List.map_nil,List.append_nil,List.map_append,List.map_cons,zl_app,wz,ex,show 2 - 3=0 from rfl,List.take_zero] at hsz ⊢
   simp only [zl,lineL,g3.2.2,List.map_cons,List.map_nil,List.sum_cons,List.sum_nil,List.map_append,List.sum_append] at hsz ⊢
   omega
 | site x y z i hw g1 g2 g3 g4 =>
  have ex:x.1=kSite:=hz x (by rw [hw];rfl)
  have hnn:st.p.lv ≠ []:=hne.resolve_right (by omega)
  refine ⟨by omega,h.lv,fun _=>hnn,fun q=>absurd q (by dsimp only;omega),fun _=>hlt (by omega),hor,h.ch,fun q=>absurd q (by dsimp only;omega),⟨by simp;omega,fun b hb=>?_,?_⟩,fun q=>absurd q (by dsimp only;omega),fun q=>absurd q (by dsimp only;omega),fun q=>absurd q (by dsimp only;omega),fun q=>absurd q (by dsimp only;omega),fun q=>absurd q (by dsimp only;omega),?_⟩
  ·rcases List.mem_append.1 hb with hb | hb
   ·exact h.si.2.1 b hb
   ·rw [List.mem_singleton] at hb;subst hb;exact ⟨g1,g3.1,g3.2.1⟩
  ·rw [List.map_append];exact nodup_snoc h.si.2.2 g2
  ·have ek:st.k - 3=0:=by omega
   subst hw
   simp only [linesK,lineW,ek,List.take_zero,List.append_nil] at hsz
   simp only [linesK,lineW,List.map_nil,List.append_nil,List.map_append,List.map_cons,zl_app,wz,ex,show 3 - 3=0 from rfl,List.take_zero] at hsz ⊢
   simp only [zl,lineL,g3.2.2,List.map_cons,List.map_nil,List.sum_cons,List.sum_nil,List.map_append,List.sum_append] at hsz ⊢
   omega
 | mode x y hw s g1 =>
  have ex:x.1=kMode:=hz x (by rw [hw];rfl)
  have hnn:st.p.lv ≠ []:=hne.resolve_right (by omega)
  refine ⟨by omega,h.lv,fun _=>hnn,fun q=>absurd q (by dsimp only;omega),fun _=>hlt (by omega),hor,h.ch,fun q=>absurd q (by dsimp only;omega),h.si,fun q=>absurd q (by dsimp only;omega),fun q=>absurd q (by dsimp only;omega),fun q=>absurd q (by dsimp only;omega),fun q=>absurd q (by dsimp only;omega),fun q=>absurd q (by dsimp only;omega),?_⟩
  have ek:st.k - 3=0:=by omega
  subst hw
  simp only [linesK,lineW,ek,List.take_zero,List.append_nil] at hsz
  simp only [linesK,lineW,tailW,zl_app,wz,ex,show 4 - 3=1 from rfl,List.take_succ_cons,List.take_zero,List.map_cons,List.map_nil,g1] at hsz ⊢
  simp only [zl,List.map_cons,List.map_nil,List.sum_cons,List.sum_nil] at hsz ⊢
  omega
 | steps x y hw n g1 g2 =>
  have ex:x.1=kSteps:=hz x (by rw [hw];rfl)
  have hnn:st.p.lv ≠ []:=hne.resolve_right (by omega)
  have ek:st.k=4:=by omega
  have hi:=itoa_leZ g1
  refine ⟨by omega,h.lv,fun _=>hnn,fun q=>absurd q (by dsimp only;omega),fun _=>hlt (by omega),hor,h.ch,fun q=>absurd q (by dsimp only;omega),h.si,fun q=>absurd q (by dsimp only;omega),fun _=>⟨by dsimp only;omega,by dsimp only;omega⟩,fun q=>absurd q (by dsimp only;omega),fun q=>absurd q (by dsimp only;omega),fun q=>absurd q (by dsimp only;omega),?_⟩
  subst hw
  simp only [linesK,lineW,ek,tailW,zl_app,wz,ex,show 4 - 3=1 from rfl,show 5 - 3=2 from rfl,List.take_succ_cons,List.take_zero,List.map_cons,List.map_nil] at hsz ⊢
  simp only [zl,lineZ,List.map_cons,List.map_nil,List.sum_cons,List.sum_nil] at hsz ⊢
  omega
 | paths x y hw n g1 g2 =>
  have ex:x.1=kPaths:=hz x (by rw [hw];rfl)
  have hnn:st.p.lv ≠ []:=hne.resolve_right (by omega)
  have ek:st.k=5:=by omega
  have hi:=itoa_leZ g1
  refine ⟨by omega,h.lv,fun _=>hnn,fun q=>absurd q (by dsimp only;omega),fun _=>hlt (by omega),hor,h.ch,fun q=>absurd q (by dsimp only;omega),h.si,fun q=>absurd q (by dsimp only;omega),fun _=>h.n5 (by omega),fun _=>⟨by dsimp only;omega,by dsimp only;omega⟩,fun q=>absurd q (by dsimp only;omega),fun q=>absurd q (by dsimp only;omega),?_⟩
  subst hw
  simp only [linesK,lineW,ek,tailW,zl_app,wz,ex,show 5 - 3=2 from rfl,show 6 - 3=3 from rfl,List.take_succ_cons,List.take_zero,List.map_cons,List.map_nil] at hsz ⊢
  simp only [zl,lineZ,List.map_cons,List.map_nil,List.sum_cons,List.sum_nil] at hsz ⊢
  omega
 | nodes x y hw n g1 g2 =>
  have ex:x.1=kNodes:=hz x (by rw [hw];rfl)
  have hnn:st.p.lv ≠ []:=hne.resolve_right (by omega)
  have ek:st.k=6:=by omega
  have hi:=itoa_leZ g1
  refine ⟨by omega,h.lv,fun _=>hnn,fun q=>absurd q (by dsimp only;omega),fun _=>hlt (by omega),hor,h.ch,fun q=>absurd q (by dsimp only;omega),h.si,fun q=>absurd q (by dsimp only;omega),fun _=>h.n5 (by omega),fun _=>h.n6 (by omega),fun _=>⟨by dsimp only;omega,by dsimp only;omega⟩,fun q=>absurd q (by dsimp only;omega),?_⟩
  subst hw
  simp only [linesK,lineW,ek,tailW,zl_app,wz,ex,show 6 - 3=3 from rfl,show 7 - 3=4 from rfl,List.take_succ_cons,List.take_zero,List.map_cons,List.map_nil] at hsz ⊢
  simp only [zl,lineZ,List.map_cons,List.map_nil,List.sum_cons,List.sum_nil] at hsz ⊢
  omega
 | conf x y hw n g1 g2 =>
  have ex:x.1=kConf:=hz x (by rw [hw];rfl)
  have hnn:st.p.lv ≠ []:=hne.resolve_right (by omega)
  have ek:st.k=7:=by omega
  have hi:=itoa_leZ g1
  refine ⟨by omega,h.lv,fun _=>hnn,fun q=>absurd q (by dsimp only;omega),fun _=>hlt (by omega),hor,h.ch,fun q=>absurd q (by dsimp only;omega),h.si,fun q=>absurd q (by dsimp only;omega),fun _=>h.n5 (by omega),fun _=>h.n6 (by omega),fun _=>h.n7 (by omega),fun _=>⟨by dsimp only;omega,by dsimp only;omega⟩,?_⟩
  subst hw
  simp only [linesK,lineW,ek,tailW,zl_app,wz,ex,show 7 - 3=4 from rfl,show 8 - 3=5 from rfl,List.take_succ_cons,List.take_zero,List.map_cons,List.map_nil] at hsz ⊢
  simp only [zl,lineZ,List.map_cons,List.map_nil,List.sum_cons,List.sum_nil] at hsz ⊢
  omega
section
variable {Q:Int × Int→Prop} {ws:List Wd}
def FQ (Q:Int × Int→Prop) (r:RS):Prop:=r.e ≠ 0→Q r.pos
theorem FQ.fail {r:RS} {pos:Int × Int} {e:Int} (h:FQ Q r) (hp:r.e=0→Q pos):FQ Q (failR r pos e):=by
 unfold failR
 split
 ·rename_i q;exact fun _=>hp q
 ·exact h
structure WQ (Q:Int × Int→Prop) (ws:List Wd):Prop where
 ne:ws ≠ []
 all:∀ w ∈ ws,Q (wpos w)
theorem WQ.at (h:WQ Q ws) {i:Nat} (hi:i<ws.length):Q (wpos (ws.getD i wd0)):=by
 rw [List.getD_eq_getElem?_getD,List.getElem?_eq_getElem hi]
 exact h.all _ (List.getElem_mem _)
theorem WQ.hd (h:WQ Q ws):Q (wpos (ws.headD wd0)):=by
 cases ws with
 | nil=>exact absurd rfl h.ne
 | cons a b=>exact h.all a (by simp)
theorem FQ.next {r:RS} (h:FQ Q r) (hw:WQ Q ws):FQ Q (nextR ws r).2∧((nextR ws r).2.e=0→Q (wpos (nextR ws r).1)):=by
 unfold nextR
 split
 ·rename_i q;exact ⟨h,fun _=>hw.at q⟩
 ·exact ⟨h.fail fun _=>hw.hd,fun e=>absurd e (failR_e (by decide))⟩
theorem FQ.many {r:RS} (h:FQ Q r) (hw:WQ Q ws) (n m:Nat):FQ Q (manyR n m ws r):=by
 unfold manyR
 split
 ·exact h.fail fun _=>hw.hd
 ·exact h
theorem FQ.name {r:RS} (h:FQ Q r) (hw:WQ Q ws):FQ Q (nameR ws r).2∧((nameR ws r).2.e=0→Q (wpos (nameR ws r).1)):=by
 obtain ⟨h1,h2⟩:=h.next hw
 unfold nameR nameQ
 dsimp only
 split
 ·exact ⟨h1,h2⟩
 ·exact ⟨h1.fail h2,fun e=>absurd e (failR_e (by decide))⟩
theorem FQ.level {r:RS} (h:FQ Q r) (hw:WQ Q ws):FQ Q (levelR ws r).2:=by
 obtain ⟨h1,h2⟩:=h.name hw
 unfold levelR levelQ
 dsimp only
 split
 ·exact h1
 ·exact h1.fail h2
theorem FQ.new {r:RS} (h:FQ Q r) (hw:WQ Q ws) (had:List Bs):FQ Q (newR had ws r).2:=by
 obtain ⟨h1,h2⟩:=h.name hw
 unfold newR newQ
 dsimp only
 split
 ·exact h1.fail h2
 ·exact h1
theorem FQ.number {r:RS} (h:FQ Q r) (hw:WQ Q ws) (lo hi:Nat):FQ Q (numberR lo hi ws r).2:=by
 obtain ⟨h1,h2⟩:=h.next hw
 unfold numberR numberQ
 dsimp only
 split
 ·exact h1.fail h2
 ·split
  ·exact h1.fail h2
  ·exact h1
theorem FQ.set {r:RS} (h:FQ Q r) (f:Po→Po):FQ Q (setP r f):=h
theorem FQ.read {r:RS} (h:FQ Q r) (hw:WQ Q ws) (k:Nat):FQ Q (readR k ws r):=by
 unfold readR
 split
 ·exact ((h.many hw _ _).new hw _).set _
 ·exact (((h.many hw _ _).level hw).level hw).set _
 ·exact (((h.many hw _ _).new hw _).level hw).set _
 ·exact (((h.many hw _ _).new hw _).level hw).set _
 ·unfold modeK
  dsimp only
  obtain ⟨h1,h2⟩:=h.next hw
  split
  ·exact (h1.set _).fail h2
  ·exact h1.set _
 ·exact (h.number hw _ _).set _
 ·exact (h.number hw _ _).set _
 ·exact (h.number hw _ _).set _
 ·exact (h.number hw _ _).set _
theorem FQ.endR {r:RS} (h:FQ Q r) (hw:WQ Q ws):FQ Q (endR ws r):=by
 unfold Proofs.YtbijamcoibonkaaDoor.endR
 split
 ·rename_i q;exact h.fail fun _=>hw.at q
 ·exact h
end
end Go.Proofs.YtbijamcoibonkaaDoor
