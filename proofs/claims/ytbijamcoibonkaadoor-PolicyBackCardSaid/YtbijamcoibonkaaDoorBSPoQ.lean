/-
 Policies, plainly: the text of a valid policy is read back (no program in sight).
-/
import Derived.Test.YtbijamcoibonkaaDoorBSPoP
namespace Go.Proofs.YtbijamcoibonkaaDoor
set_option linter.unusedSimpArgs false
set_option linter.unusedVariables false
open Go.RowKit Go.Shelf
theorem bindsE_iff (n:Nat):∀ (l:List (Bs × Int)) (had:List Bs),bindsE n had l=0 ↔ (∀ b ∈ l,nameB b.1=true∧b.1 ∉ had∧0≤b.2∧b.2<(n:Int))∧(l.map (·.1)).Nodup
 | [],had=>by simp [bindsE]
 | b :: r,had=>by
  unfold bindsE
  by_cases h1:nameB b.1=false
  ·rw [if_pos h1]
   constructor
   ·intro h;cases h
   ·rintro ⟨h,_⟩
    have:=(h b (List.mem_cons_self ..)).1
    rw [h1] at this;cases this
  rw [if_neg h1]
  by_cases h2:had.contains b.1
  ·rw [if_pos h2]
   constructor
   ·intro h;cases h
   ·rintro ⟨h,_⟩
    exact absurd (List.contains_iff_mem.1 h2) (h b (List.mem_cons_self ..)).2.1
  rw [if_neg h2]
  by_cases h3:b.2<0∨(n:Int)≤b.2
  ·rw [if_pos h3]
   constructor
   ·intro h;cases h
   ·rintro ⟨h,_⟩
    have:=(h b (List.mem_cons_self ..)).2.2
    omega
  rw [if_neg h3,bindsE_iff n r (had++[b.1])]
  have h2':b.1 ∉ had:=fun e=>h2 (List.contains_iff_mem.2 e)
  simp only [Bool.not_eq_false] at h1
  constructor
  ·rintro ⟨ha,hb⟩
   refine ⟨fun c hc=>?_,?_⟩
   ·rcases List.mem_cons.1 hc with rfl | hc
    ·exact ⟨h1,h2',by omega,by omega⟩
    ·obtain ⟨q1,q2,q3⟩:=ha c hc
     exact ⟨q1,fun e=>q2 (List.mem_append_left _ e),q3⟩
   ·rw [List.map_cons,List.nodup_cons]
    refine ⟨fun e=>?_,hb⟩
    obtain ⟨c,hc,e⟩:=List.mem_map.1 e
    exact (ha c hc).2.1 (by rw [e];simp)
  ·rintro ⟨ha,hb⟩
   rw [List.map_cons,List.nodup_cons] at hb
   refine ⟨fun c hc=>?_,hb.2⟩
   obtain ⟨q1,q2,q3⟩:=ha c (List.mem_cons_of_mem _ hc)
   refine ⟨q1,fun e=>?_,q3⟩
   rcases List.mem_append.1 e with e | e
   ·exact q2 e
   ·rw [List.mem_singleton] at e
    exact hb.1 (by rw [← e];exact List.mem_map_of_mem hc)
theorem levelsE_iff:∀ (l had:List Bs),levelsE had l=0 ↔ (∀ s ∈ l,nameB s=true∧s ∉ had)∧l.Nodup
 | [],had=>by simp [levelsE]
 | b :: r,had=>by
  unfold levelsE
  by_cases h1:nameB b=false
  ·rw [if_pos h1]
   constructor
   ·intro h;cases h
   ·rintro ⟨h,_⟩
    have:=(h b (List.mem_cons_self ..)).1
    rw [h1] at this;cases this
  rw [if_neg h1]
  by_cases h2:had.contains b
  ·rw [if_pos h2]
   constructor
   ·intro h;cases h
   ·rintro ⟨h,_⟩
    exact absurd (List.contains_iff_mem.1 h2) (h b (List.mem_cons_self ..)).2
  rw [if_neg h2,levelsE_iff r (had++[b])]
  have h2':b ∉ had:=fun e=>h2 (List.contains_iff_mem.2 e)
  simp only [Bool.not_eq_false] at h1
  constructor
  ·rintro ⟨ha,hb⟩
   refine ⟨fun c hc=>?_,?_⟩
   ·rcases List.mem_cons.1 hc with rfl | hc
    ·exact ⟨h1,h2'⟩
    ·obtain ⟨q1,q2⟩:=ha c hc
     exact ⟨q1,fun e=>q2 (List.mem_append_left _ e)⟩
   ·rw [List.nodup_cons]
    exact ⟨fun e=>(ha b e).2 (by simp),hb⟩
  ·rintro ⟨ha,hb⟩
   rw [List.nodup_cons] at hb
   refine ⟨fun c hc=>?_,hb.2⟩
   obtain ⟨q1,q2⟩:=ha c (List.mem_cons_of_mem _ hc)
   refine ⟨q1,fun e=>?_⟩
   rcases List.mem_append.1 e with e | e
   ·exact q2 e
   ·rw [List.mem_singleton] at e
    exact hb.1 (by rw [← e];exact hc)
theorem orE_zero {a b:Int}:orE a b=0 ↔ a=0∧b=0:=by unfold orE;split <;> omega
structure PoOk (p:Po):Prop where
 ne:p.lv ≠ []
 len:p.lv.length≤32
 lv:(∀ s ∈ p.lv,nameB s=true)∧p.lv.Nodup
 lat:latE p.lv.length p.od=0
 ch:p.ch.length≤32∧(∀ b ∈ p.ch,nameB b.1=true∧0≤b.2∧b.2<(p.lv.length:Int))∧(p.ch.map (·.1)).Nodup
 st:p.st.length≤32∧(∀ b ∈ p.st,nameB b.1=true∧0≤b.2∧b.2<(p.lv.length:Int))∧(p.st.map (·.1)).Nodup
 rg:rangeB p=true
theorem listE_iff (n:Nat) (l:List (Bs × Int)):listE n l=0 ↔ l.length≤32∧(∀ b ∈ l,nameB b.1=true∧0≤b.2∧b.2<(n:Int))∧(l.map (·.1)).Nodup:=by
 unfold listE
 split
 ·constructor
  ·intro h;cases h
  ·rintro ⟨h,_⟩;omega
 ·rw [bindsE_iff]
  simp only [List.not_mem_nil,not_false_eq_true,true_and]
  exact ⟨fun h=>⟨by omega,h⟩,fun h=>h.2⟩
theorem checkP_iff (p:Po):checkP p=0 ↔ PoOk p:=by
 unfold checkP
 by_cases h1:p.lv=[]
 ·rw [if_pos h1]
  exact ⟨fun h=>(by cases h),fun h=>absurd h1 h.ne⟩
 rw [if_neg h1]
 by_cases h2:32<p.lv.length
 ·rw [if_pos h2]
  exact ⟨fun h=>(by cases h),fun h=>absurd h.len (by omega)⟩
 rw [if_neg h2,orE_zero,orE_zero,orE_zero,orE_zero,levelsE_iff,listE_iff,listE_iff]
 simp only [List.not_mem_nil,not_false_eq_true,and_true]
 constructor
 ·rintro ⟨a,b,c,d,e⟩
  exact ⟨h1,by omega,a,b,c,d,by by_cases h:rangeB p=true;exact h;rw [if_neg h] at e;cases e⟩
 ·intro h
  exact ⟨h.lv,h.lat,h.ch,h.st,by rw [if_pos h.rg]⟩
theorem idx_nd:∀ {l:List Bs},l.Nodup→∀ (i:Nat) (h:i<l.length),l.idxOf l[i]=i
 | [],_,i,h=>absurd h (by simp)
 | x :: r,hn,0,h=>by simp
 | x :: r,hn,i+1,h=>by
  rw [List.nodup_cons] at hn
  have hx:x ≠ r[i]'(by simpa using h):=fun e=>hn.1 (by rw [e];exact List.getElem_mem _)
  rw [List.getElem_cons_succ,List.idxOf_cons]
  have hb:(x == r[i]'(by simpa using h))=false:=beq_eq_false_iff_ne.2 hx
  rw [hb,cond_false,idx_nd hn.2 i (by simpa using h)]
theorem lvl_nd {l:List Bs} (hn:l.Nodup) {b:Int} (h0:0≤b) (h1:b<(l.length:Int)):lvl l (l.getD b.toNat [])=b∧l.contains (l.getD b.toNat [])=true∧l.getD b.toNat [] ∈ l:=by
 have hlt:b.toNat<l.length:=by omega
 have e:l.getD b.toNat []=l[b.toNat]:=by rw [List.getD_eq_getElem?_getD,List.getElem?_eq_getElem hlt];rfl
 have hm:l[b.toNat] ∈ l:=List.getElem_mem _
 have hc:l.contains l[b.toNat]=true:=List.contains_iff_mem.2 hm
 refine ⟨?_,by rw [e];exact hc,by rw [e];exact hm⟩
 unfold lvl
 rw [e,if_pos hc,idx_nd hn _ hlt]
 omega
theorem two_of {ws:List Wd} {a b:Bs} (h:ws.map (·.1)=[a,b]):∃ x y:Wd,ws=[x,y]∧x.1=a∧y.1=b:=by
 match ws,h with
 | [x,y],h=>simp at h;exact ⟨x,y,rfl,h.1,h.2⟩
theorem three_of {ws:List Wd} {a b c:Bs} (h:ws.map (·.1)=[a,b,c]):∃ x y z:Wd,ws=[x,y,z]∧x.1=a∧y.1=b∧z.1=c:=by
 match ws,h with
 | [x,y,z],h=>simp at h;exact ⟨x,y,z,rfl,h.1,h.2.1,h.2.2⟩
theorem next_ok {ws:List Wd} {r:RS} (h:r.ix<ws.length):nextR ws r=(ws.getD r.ix wd0,{ r with ix:=r.ix+1 }):=if_pos h
theorem name_ok {ws:List Wd} {r:RS} (h:r.ix<ws.length) (hn:nameB (ws.getD r.ix wd0).1=true):nameR ws r=(ws.getD r.ix wd0,{ r with ix:=r.ix+1 }):=by
 unfold nameR nameQ
 rw [next_ok h,if_pos hn]
theorem new_ok {had:List Bs} {ws:List Wd} {r:RS} (h:r.ix<ws.length) (hn:nameB (ws.getD r.ix wd0).1=true) (hc:(ws.getD r.ix wd0).1 ∉ had):newR had ws r=(ws.getD r.ix wd0,{ r with ix:=r.ix+1 }):=by
 unfold newR newQ
 rw [name_ok h hn,if_neg (fun e=>hc (List.contains_iff_mem.1 e))]
theorem level_ok {ws:List Wd} {r:RS} (h:r.ix<ws.length) (hn:nameB (ws.getD r.ix wd0).1=true) (hc:r.p.lv.contains (ws.getD r.ix wd0).1=true):levelR ws r=(lvl r.p.lv (ws.getD r.ix wd0).1,{ r with ix:=r.ix+1 }):=by
 unfold levelR levelQ
 rw [name_ok h hn,if_pos hc]
theorem many_ok {n most:Nat} {ws:List Wd} {r:RS} (h:n<most):manyR n most ws r=r:=if_neg (by omega)
theorem end_ok {ws:List Wd} {r:RS} (h:ws.length≤r.ix):endR ws r=r:=if_neg (by omega)
theorem body_ok {p p':Po} {k:Nat} {last:Int × Int} {b:Bool} {ws:List Wd} {m:Nat} (h:readR m ws ⟨p,1,(0,0),0⟩=⟨p',ws.length,(0,0),0⟩):bodyQ ⟨p,k,last,b⟩ ws m = .ok ⟨p',m,if m≤1 then wpos (ws.headD wd0) else last,b⟩:=by
 unfold bodyQ
 rw [h,end_ok (Nat.le_refl _)]
 rfl
theorem line_level (p:Po) (last:Int × Int) (b:Bool) (x y:Wd) (hx:x.1=kLevel) (hy:nameB y.1=true) (hn:y.1 ∉ p.lv) (hl:p.lv.length<32) :
  lineQ ⟨p,0,last,b⟩ [x,y] = .ok ⟨{ p with lv:=p.lv++[y.1] },0,wpos x,b⟩:=by
 have hs:stepP kLevel 0=some 0:=by decide
 have e:readR 0 [x,y] ⟨p,1,(0,0),0⟩=⟨{ p with lv:=p.lv++[y.1] },2,(0,0),0⟩:=by
  show levelK _ _=_
  unfold levelK
  rw [many_ok hl,new_ok (ws:=[x,y]) (r:=⟨p,1,(0,0),0⟩) (by simp) hy hn]
  rfl
 have hb:=body_ok (k:=0) (last:=last) (b:=b) e
 have hq:kindQ ⟨p,0,last,b⟩ x=some 0:=by unfold kindQ;rw [hx,hs];simp
 unfold lineQ
 rw [List.headD_cons,hq]
 exact hb
theorem line_order (p:Po) (k:Nat) (last:Int × Int) (b:Bool) (x y z:Wd) (i j:Int) (hx:x.1=kOrder) (hk:k≤1) (hn:p.lv.Nodup) (hnm:∀ s ∈ p.lv,nameB s=true) (hi:0≤i∧i<(p.lv.length:Int)) (hj:0≤j∧j<(p.lv.length:Int)) (hy:y.1=p.lv.getD i.toNat []) (hz:z.1=p.lv.getD j.toNat []) (hl:p.od.length<1024) :
  lineQ ⟨p,k,last,b⟩ [x,y,z] = .ok ⟨{ p with od:=p.od++[(i,j)] },1,wpos x,b⟩:=by
 have hs:stepP kOrder k=some 1:=by
  obtain rfl | rfl:k=0∨k=1:=by omega
  ·decide
  ·decide
 obtain ⟨a1,a2,a3⟩:=lvl_nd hn hi.1 hi.2
 obtain ⟨b1,b2,b3⟩:=lvl_nd hn hj.1 hj.2
 have hE:p.lv.isEmpty=false:=by cases h:p.lv with | nil=>rw [h] at hi;simp at hi;omega | cons=>rfl
 have n1:=hnm _ a3
 have n2:=hnm _ b3
 rw [← hy] at a1 a2 n1
 rw [← hz] at b1 b2 n2
 have e:readR 1 [x,y,z] ⟨p,1,(0,0),0⟩=⟨{ p with od:=p.od++[(i,j)] },3,(0,0),0⟩:=by
  show orderK _ _=_
  unfold orderK
  rw [many_ok hl,level_ok (ws:=[x,y,z]) (r:=⟨p,1,(0,0),0⟩) (by simp) n1 a2]
  dsimp only
  rw [level_ok (ws:=[x,y,z]) (r:=⟨p,2,(0,0),0⟩) (by simp) n2 b2]
  show RS.mk { p with od:=p.od++[(lvl p.lv y.1,lvl p.lv z.1)] } 3 (0,0) 0=_
  rw [a1,b1]
 have hb:=body_ok (k:=k) (last:=last) (b:=b) e
 have hq:kindQ ⟨p,k,last,b⟩ x=some 1:=by unfold kindQ;rw [hx,hs,hE];rfl
 have hh:(highB (some 1) && decide (k≤1))=false:=rfl
 unfold lineQ
 simp only [List.headD_cons,hq,hh,Bool.false_eq_true,if_false,bind,Except.bind]
 rw [hb]
 rfl
theorem orderQ_ok (st:LS) (h:latE st.p.lv.length st.p.od=0):∃ b,orderQ st = .ok { st with ord:=b }:=by
 unfold orderQ
 by_cases h1:(st.ord || st.p.lv.isEmpty)=true
 ·exact ⟨st.ord,by rw [if_pos h1]⟩
 ·exact ⟨true,by rw [if_neg h1,if_neg (by rw [h];simp)]⟩
theorem line_hi (p:Po) (k:Nat) (last:Int × Int) (b:Bool) (ws:List Wd) (m:Nat) (h1:1<m) (hs:stepP (ws.headD wd0).1 k=some m) (hne:p.lv ≠ []) (hl:latE p.lv.length p.od=0) :
  ∃ b',lineQ ⟨p,k,last,b⟩ ws=bodyQ ⟨p,k,last,b'⟩ ws m:=by
 have hE:p.lv.isEmpty=false:=by cases h:p.lv with | nil=>exact absurd h hne | cons=>rfl
 have hq:kindQ ⟨p,k,last,b⟩ (ws.headD wd0)=some m:=by unfold kindQ;rw [hE,hs];rfl
 have hh:highB (some m)=true:=by simp [highB,h1]
 by_cases hk:k≤1
 ·obtain ⟨b',hb⟩:=orderQ_ok ⟨p,k,last,b⟩ hl
  refine ⟨b',?_⟩
  unfold lineQ
  simp only [hq,hh,hk,decide_true,Bool.and_self,if_true,hb,bind,Except.bind]
 ·refine ⟨b,?_⟩
  unfold lineQ
  simp only [hq,hh,hk,decide_false,Bool.and_false,Bool.false_eq_true,if_false,bind,Except.bind]
theorem body_chan (p:Po) (k:Nat) (last:Int × Int) (b:Bool) (x y z:Wd) (i:Int) (hn:p.lv.Nodup) (hnm:∀ s ∈ p.lv,nameB s=true) (hi:0≤i∧i<(p.lv.length:Int)) (hy:nameB y.1=true) (hnew:y.1 ∉ p.ch.map (·.1)) (hz:z.1=p.lv.getD i.toNat []) (hl:p.ch.length<32) :
  bodyQ ⟨p,k,last,b⟩ [x,y,z] 2 = .ok ⟨{ p with ch:=p.ch++[(y.1,i)] },2,last,b⟩:=by
 obtain ⟨b1,b2,b3⟩:=lvl_nd hn hi.1 hi.2
 have n2:=hnm _ b3
 rw [← hz] at b1 b2 n2
 have eb:bindR p.ch [x,y,z] ⟨p,1,(0,0),0⟩=(p.ch++[(y.1,i)],⟨p,3,(0,0),0⟩):=by
  unfold bindR
  rw [many_ok hl,new_ok (ws:=[x,y,z]) (r:=⟨p,1,(0,0),0⟩) (by simp) hy hnew]
  dsimp only
  rw [level_ok (ws:=[x,y,z]) (r:=⟨p,2,(0,0),0⟩) (by simp) n2 b2]
  show (p.ch++[(y.1,lvl p.lv z.1)],RS.mk p 3 (0,0) 0)=_
  rw [b1]
 have e:readR 2 [x,y,z] ⟨p,1,(0,0),0⟩=⟨{ p with ch:=p.ch++[(y.1,i)] },3,(0,0),0⟩:=by
  show chanK _ _=_
  unfold chanK
  dsimp only
  rw [eb]
  rfl
 exact body_ok (k:=k) (last:=last) (b:=b) e
theorem body_site (p:Po) (k:Nat) (last:Int × Int) (b:Bool) (x y z:Wd) (i:Int) (hn:p.lv.Nodup) (hnm:∀ s ∈ p.lv,nameB s=true) (hi:0≤i∧i<(p.lv.length:Int)) (hy:nameB y.1=true) (hnew:y.1 ∉ p.st.map (·.1)) (hz:z.1=p.lv.getD i.toNat []) (hl:p.st.length<32) :
  bodyQ ⟨p,k,last,b⟩ [x,y,z] 3 = .ok ⟨{ p with st:=p.st++[(y.1,i)] },3,last,b⟩:=by
 obtain ⟨b1,b2,b3⟩:=lvl_nd hn hi.1 hi.2
 have n2:=hnm _ b3
 rw [← hz] at b1 b2 n2
 have eb:bindR p.st [x,y,z] ⟨p,1,(0,0),0⟩=(p.st++[(y.1,i)],⟨p,3,(0,0),0⟩):=by
  unfold bindR
  rw [many_ok hl,new_ok (ws:=[x,y,z]) (r:=⟨p,1,(0,0),0⟩) (by simp) hy hnew]
  dsimp only
  rw [level_ok (ws:=[x,y,z]) (r:=⟨p,2,(0,0),0⟩) (by simp) n2 b2]
  show (p.st++[(y.1,lvl p.lv z.1)],RS.mk p 3 (0,0) 0)=_
  rw [b1]
 have e:readR 3 [x,y,z] ⟨p,1,(0,0),0⟩=⟨{ p with st:=p.st++[(y.1,i)] },3,(0,0),0⟩:=by
  show siteK _ _=_
  unfold siteK
  dsimp only
  rw [eb]
  rfl
 exact body_ok (k:=k) (last:=last) (b:=b) e
theorem body_mode (p:Po) (k:Nat) (last:Int × Int) (b s:Bool) (x y:Wd) (hy:y.1=if s then kSens else kInsens):bodyQ ⟨p,k,last,b⟩ [x,y] 4 = .ok ⟨{ p with sens:=s },4,last,b⟩:=by
 cases s with
 | true =>
  have hy:y.1=kSens:=hy
  simp [bodyQ,readR,modeK,nextR,endR,setP,hy]
 | false =>
  have hy:y.1=kInsens:=hy
  have hne:kInsens ≠ kSens:=by decide
  simp [bodyQ,readR,modeK,nextR,endR,setP,hy,hne]
theorem num_itoa {z:Int} (h0:0≤z) (h1:z≤9223372036854775807):numR (Lib.itoa z)=(z.toNat,0):=by
 have:Lib.itoa z=Lib.decDigits z.toNat:=by unfold Lib.itoa;rw [if_neg (by omega)]
 rw [this];exact num_back _ (by omega)
theorem number_ok (lo hi:Nat) (r:RS) (x y:Wd) (z:Int) (hr:r.ix=1) (hy:y.1=Lib.itoa z) (h0:(lo:Int)≤z) (h1:z≤(hi:Int)) (hh:hi≤1099511627776):numberR lo hi [x,y] r=(z,{ r with ix:=2 }):=by
 have e:=num_itoa (z:=z) (by omega) (by omega)
 have hw:IntKind.i64.wrap ((z.toNat:Nat):Int)=z:=by rw [Int.toNat_of_nonneg (by omega)];exact IntWalk.i64_in _ (by omega)
 have hx:nextR [x,y] r=(y,{ r with ix:=2 }):=by simp [nextR,hr]
 unfold numberR
 rw [hx]
 simp only [numberQ,hy,e,hw]
 rw [if_neg (by simp),if_neg (by omega)]
theorem body_num {p:Po} {k:Nat} {last:Int × Int} {b:Bool} {x y:Wd} {m lo hi:Nat} {z:Int} {f:Po→Po} (hm:1<m) (hread:∀ r,(numberR lo hi [x,y] r).1=z→readR m [x,y] r=setP (numberR lo hi [x,y] r).2 f)
  (hy:y.1=Lib.itoa z) (h0:(lo:Int)≤z) (h1:z≤(hi:Int)) (hh:hi≤1099511627776):bodyQ ⟨p,k,last,b⟩ [x,y] m = .ok ⟨f p,m,last,b⟩:=by
 have hn:=number_ok lo hi ⟨p,1,(0,0),0⟩ x y z rfl hy h0 h1 hh
 have hr:=hread ⟨p,1,(0,0),0⟩ (by rw [hn])
 unfold bodyQ
 rw [hr,hn]
 simp [setP,endR,Nat.not_le.2 hm]
theorem linesQ_cons {st st':LS} {l:List Wd} {r:List (List Wd)} (h:lineQ st l = .ok st'):linesQ st (l :: r)=linesQ st' r:=by
 show (lineQ st l >>= fun s=>linesQ s r)=_
 rw [h];rfl
theorem levels_back:∀ (l:List Bs) (p:Po) (last:Int × Int) (b:Bool) (o rest:List (List Wd)),txts o=l.map (fun s=>[kLevel,s])→(∀ s ∈ l,nameB s=true)→(p.lv++l).Nodup→p.lv.length+l.length≤32 →
  ∃ last',linesQ ⟨p,0,last,b⟩ (o++rest)=linesQ ⟨{ p with lv:=p.lv++l },0,last',b⟩ rest
 | [],p,last,b,o,rest,ho,_,_,_=>by
  obtain rfl:o=[]:=by simpa [txts] using ho
  exact ⟨last,by rw [List.append_nil];rfl⟩
 | s :: l,p,last,b,o,rest,ho,hn,hd,hl=>by
  obtain ⟨a,o',rfl,ha,ho'⟩:=txts_cons ho
  obtain ⟨x,y,rfl,hx,hy⟩:=two_of ha
  have hns:y.1 ∉ p.lv:=by
   rw [hy];intro e
   exact (List.nodup_append.1 hd).2.2 s e s (by simp) rfl
  have h1:=line_level p last b x y hx (by rw [hy];exact hn s (by simp)) hns (by simp at hl;omega)
  obtain ⟨last',h2⟩:=levels_back l { p with lv:=p.lv++[y.1] } (wpos x) b o' rest ho' (fun t ht=>hn t (List.mem_cons_of_mem _ ht)) (by rw [hy];simpa using hd) (by simp at hl ⊢;omega)
  refine ⟨last',?_⟩
  rw [List.cons_append,linesQ_cons h1,h2,hy]
  simp
theorem orders_back:∀ (l:List (Int × Int)) (p:Po) (k:Nat) (last:Int × Int) (b:Bool) (o rest:List (List Wd)),txts o=l.map (fun o=>[kOrder,p.lv.getD o.1.toNat [],p.lv.getD o.2.toNat []])→k≤1→p.lv.Nodup→(∀ s ∈ p.lv,nameB s=true) →
  (∀ o ∈ l,(0≤o.1∧o.1<(p.lv.length:Int))∧(0≤o.2∧o.2<(p.lv.length:Int)))→p.od.length+l.length≤1024 →
  ∃ k' last',k'≤1∧linesQ ⟨p,k,last,b⟩ (o++rest)=linesQ ⟨{ p with od:=p.od++l },k',last',b⟩ rest
 | [],p,k,last,b,o,rest,ho,hk,_,_,_,_=>by
  obtain rfl:o=[]:=by simpa [txts] using ho
  exact ⟨k,last,hk,by rw [List.append_nil];rfl⟩
 | s :: l,p,k,last,b,o,rest,ho,hk,hd,hn,hr,hl=>by
  obtain ⟨a,o',rfl,ha,ho'⟩:=txts_cons ho
  obtain ⟨x,y,z,rfl,hx,hy,hz⟩:=three_of ha
  have hs:=hr s (by simp)
  have h1:=line_order p k last b x y z s.1 s.2 hx hk hd hn hs.1 hs.2 hy hz (by simp at hl;omega)
  obtain ⟨k',last',hk',h2⟩:=orders_back l { p with od:=p.od++[(s.1,s.2)] } 1 (wpos x) b o' rest ho' (by omega) hd hn (fun t ht=>hr t (List.mem_cons_of_mem _ ht)) (by simp at hl ⊢;omega)
  refine ⟨k',last',hk',?_⟩
  rw [List.cons_append,linesQ_cons h1,h2]
  simp
theorem chans_backP:∀ (l:List (Bs × Int)) (p:Po) (k:Nat) (last:Int × Int) (b:Bool) (o rest:List (List Wd)),txts o=l.map (lineW p kChan)→k≤2→p.lv.Nodup→(∀ s ∈ p.lv,nameB s=true)→p.lv ≠ []→latE p.lv.length p.od=0 →
  (∀ c ∈ l,nameB c.1=true∧0≤c.2∧c.2<(p.lv.length:Int))→((p.ch++l).map (·.1)).Nodup→p.ch.length+l.length≤32 →
  ∃ k' b',k'≤2∧linesQ ⟨p,k,last,b⟩ (o++rest)=linesQ ⟨{ p with ch:=p.ch++l },k',last,b'⟩ rest
 | [],p,k,last,b,o,rest,ho,hk,_,_,_,_,_,_,_=>by
  obtain rfl:o=[]:=by simpa [txts] using ho
  exact ⟨k,b,hk,by rw [List.append_nil];rfl⟩
 | s :: l,p,k,last,b,o,rest,ho,hk,hd,hn,hne,hlat,hr,hnd,hl=>by
  obtain ⟨a,o',rfl,ha,ho'⟩:=txts_cons ho
  obtain ⟨x,y,z,rfl,hx,hy,hz⟩:=three_of ha
  have hs:=hr s (by simp)
  have hst:stepP kChan k=some 2:=by
   obtain rfl | rfl | rfl:k=0∨k=1∨k=2:=by omega
   all_goals decide
  obtain ⟨b1,h0⟩:=line_hi p k last b [x,y,z] 2 (by omega) (by rw [List.headD_cons,hx];exact hst) hne hlat
  have hns:y.1 ∉ p.ch.map (·.1):=by
   rw [hy];intro e
   rw [List.map_append] at hnd
   exact (List.nodup_append.1 hnd).2.2 s.1 e s.1 (by simp) rfl
  have h1:=body_chan p k last b1 x y z s.2 hd hn hs.2 (by rw [hy];exact hs.1) hns hz (by simp at hl;omega)
  rw [← h0] at h1
  obtain ⟨k',b',hk',h2⟩:=chans_backP l { p with ch:=p.ch++[(y.1,s.2)] } 2 last b1 o' rest ho' (by omega) hd hn hne hlat (fun t ht=>hr t (List.mem_cons_of_mem _ ht)) (by rw [hy];simpa using hnd) (by simp at hl ⊢;omega)
  refine ⟨k',b',hk',?_⟩
  rw [List.cons_append,linesQ_cons h1,h2,hy]
  simp
theorem sites_backP:∀ (l:List (Bs × Int)) (p:Po) (k:Nat) (last:Int × Int) (b:Bool) (o rest:List (List Wd)),txts o=l.map (lineW p kSite)→k≤3→p.lv.Nodup→(∀ s ∈ p.lv,nameB s=true)→p.lv ≠ []→latE p.lv.length p.od=0 →
  (∀ c ∈ l,nameB c.1=true∧0≤c.2∧c.2<(p.lv.length:Int))→((p.st++l).map (·.1)).Nodup→p.st.length+l.length≤32 →
  ∃ k' b',k'≤3∧linesQ ⟨p,k,last,b⟩ (o++rest)=linesQ ⟨{ p with st:=p.st++l },k',last,b'⟩ rest
 | [],p,k,last,b,o,rest,ho,hk,_,_,_,_,_,_,_=>by
  obtain rfl:o=[]:=by simpa [txts] using ho
  exact ⟨k,b,hk,by rw [List.append_nil];rfl⟩
 | s :: l,p,k,last,b,o,rest,ho,hk,hd,hn,hne,hlat,hr,hnd,hl=>by
  obtain ⟨a,o',rfl,ha,ho'⟩:=txts_cons ho
  obtain ⟨x,y,z,rfl,hx,hy,hz⟩:=three_of ha
  have hs:=hr s (by simp)
  have hst:stepP kSite k=some 3:=by
   obtain rfl | rfl | rfl | rfl:k=0∨k=1∨k=2∨k=3:=by omega
   all_goals decide
  obtain ⟨b1,h0⟩:=line_hi p k last b [x,y,z] 3 (by omega) (by rw [List.headD_cons,hx];exact hst) hne hlat
  have hns:y.1 ∉ p.st.map (·.1):=by
   rw [hy];intro e
   rw [List.map_append] at hnd
   exact (List.nodup_append.1 hnd).2.2 s.1 e s.1 (by simp) rfl
  have h1:=body_site p k last b1 x y z s.2 hd hn hs.2 (by rw [hy];exact hs.1) hns hz (by simp at hl;omega)
  rw [← h0] at h1
  obtain ⟨k',b',hk',h2⟩:=sites_backP l { p with st:=p.st++[(y.1,s.2)] } 3 last b1 o' rest ho' (by omega) hd hn hne hlat (fun t ht=>hr t (List.mem_cons_of_mem _ ht)) (by rw [hy];simpa using hnd) (by simp at hl ⊢;omega)
  refine ⟨k',b',hk',?_⟩
  rw [List.cons_append,linesQ_cons h1,h2,hy]
  simp
theorem lat_pairs {n:Nat} {od:List (Int × Int)} (h:latE n od=0):od.length≤1024∧∀ o ∈ od,pairB n o=true:=by
 unfold latE at h
 split at h
 ·cases h
 split at h
 ·cases h
 rename_i h1 h2
 refine ⟨by omega,?_⟩
 have:∀ (od:List (Int × Int)) (u v:List Nat),ordL n od u=some v→∀ o ∈ od,pairB n o=true:=by
  intro od
  induction od with
  | nil=>intro _ _ _ o ho;cases ho
  | cons q r ih =>
   intro u v hv o ho
   unfold ordL at hv
   split at hv
   ·rename_i hp
    rcases List.mem_cons.1 ho with rfl | ho
    ·exact hp
    ·exact ih _ _ hv o ho
   ·cases hv
 cases hq:ordL n od (upsL n) with
 | none=>rw [hq] at h;cases h
 | some u=>exact this od _ u hq
theorem lines_backP (p:Po) (h:PoOk p) (o:List (List Wd)) (ho:txts o=linesPW p) (e:Int × Int):(linesQ ls0 o >>= endQ e) = .ok p:=by
 unfold linesPW at ho
 obtain ⟨o4,o5,rfl,h4,h5⟩:=txts_append ho
 obtain ⟨o3,os,rfl,h3,hs⟩:=txts_append h4
 obtain ⟨o2,oc,rfl,h2,hc⟩:=txts_append h3
 obtain ⟨o1,oo,rfl,h1,hoo⟩:=txts_append h2
 obtain ⟨am,o6,rfl,ham,h6⟩:=txts_cons h5
 obtain ⟨asx,o7,rfl,has,h7⟩:=txts_cons h6
 obtain ⟨ap,o8,rfl,hap,h8⟩:=txts_cons h7
 obtain ⟨an,o9,rfl,han,h9⟩:=txts_cons h8
 obtain ⟨ac,o10,rfl,hac,h10⟩:=txts_cons h9
 obtain rfl:o10=[]:=by simpa [txts] using h10
 obtain ⟨m1,m2,rfl,xm,ym⟩:=two_of ham
 obtain ⟨s1,s2,rfl,xs,ys⟩:=two_of has
 obtain ⟨p1,p2,rfl,xp,yp⟩:=two_of hap
 obtain ⟨n1,n2,rfl,xn,yn⟩:=two_of han
 obtain ⟨c1,c2,rfl,xc,yc⟩:=two_of hac
 have hrg:=h.rg
 unfold rangeB at hrg
 simp only [Bool.and_eq_true,decide_eq_true_eq] at hrg
 obtain ⟨⟨⟨⟨r1,r2⟩,r3,r4⟩,r5,r6⟩,r7,r8⟩:=hrg
 simp only [List.append_assoc]
 obtain ⟨l1,e1⟩:=levels_back p.lv po0 (0,0) false o1 (oo++(oc++(os++[[m1,m2],[s1,s2],[p1,p2],[n1,n2],[c1,c2]]))) h1 h.lv.1 (by simpa [po0] using h.lv.2) (by simpa [po0] using h.len)
 obtain ⟨k2,l2,hk2,e2⟩:=orders_back p.od { po0 with lv:=p.lv } 0 l1 false oo (oc++(os++[[m1,m2],[s1,s2],[p1,p2],[n1,n2],[c1,c2]])) hoo (by omega) h.lv.2 h.lv.1
  (fun q hq=>by have:=(lat_pairs h.lat).2 q hq;unfold pairB at this;simp at this;exact ⟨⟨this.1.1,this.1.2⟩,this.2.1,this.2.2⟩) (by simpa [po0] using (lat_pairs h.lat).1)
 obtain ⟨k3,b3,hk3,e3⟩:=chans_backP p.ch { po0 with lv:=p.lv,od:=p.od } k2 l2 false oc (os++[[m1,m2],[s1,s2],[p1,p2],[n1,n2],[c1,c2]]) hc (by omega) h.lv.2 h.lv.1 h.ne h.lat h.ch.2.1 (by simpa [po0] using h.ch.2.2) (by simpa [po0] using h.ch.1)
 obtain ⟨k4,b4,hk4,e4⟩:=sites_backP p.st { po0 with lv:=p.lv,od:=p.od,ch:=p.ch } k3 l2 b3 os [[m1,m2],[s1,s2],[p1,p2],[n1,n2],[c1,c2]] hs (by omega) h.lv.2 h.lv.1 h.ne h.lat h.st.2.1 (by simpa [po0] using h.st.2.2) (by simpa [po0] using h.st.1)
 rw [show ls0=⟨po0,0,(0,0),false⟩ from rfl,e1]
 simp only [po0,List.nil_append] at e2 e3 e4 ⊢
 rw [e2,e3,e4]
 have hst:stepP kMode k4=some 4:=by
  obtain rfl | rfl | rfl | rfl:k4=0∨k4=1∨k4=2∨k4=3:=by omega
  all_goals decide
 obtain ⟨b5,f5⟩:=line_hi ⟨p.lv,p.od,p.ch,p.st,false,0,0,0,0⟩ k4 l2 b4 [m1,m2] 4 (by omega) (by rw [List.headD_cons,xm];exact hst) h.ne h.lat
 rw [body_mode _ _ _ _ p.sens m1 m2 ym] at f5
 rw [linesQ_cons f5]
 obtain ⟨b6,f6⟩:=line_hi ⟨p.lv,p.od,p.ch,p.st,p.sens,0,0,0,0⟩ 4 l2 b5 [s1,s2] 5 (by omega) (by rw [List.headD_cons,xs];decide) h.ne h.lat
 rw [body_num (lo:=1) (hi:=65536) (z:=p.steps) (f:=fun q=>{ q with steps:=p.steps }) (by omega) (fun r hr=>by show stepsK _ _=_;unfold stepsK;rw [hr]) ys r1 r2 (by omega)] at f6
 rw [linesQ_cons f6]
 obtain ⟨b7,f7⟩:=line_hi ⟨p.lv,p.od,p.ch,p.st,p.sens,p.steps,0,0,0⟩ 5 l2 b6 [p1,p2] 6 (by omega) (by rw [List.headD_cons,xp];decide) h.ne h.lat
 rw [body_num (lo:=1) (hi:=4096) (z:=p.paths) (f:=fun q=>{ q with paths:=p.paths }) (by omega) (fun r hr=>by show pathsK _ _=_;unfold pathsK;rw [hr]) yp r3 r4 (by omega)] at f7
 rw [linesQ_cons f7]
 obtain ⟨b8,f8⟩:=line_hi ⟨p.lv,p.od,p.ch,p.st,p.sens,p.steps,p.paths,0,0⟩ 6 l2 b7 [n1,n2] 7 (by omega) (by rw [List.headD_cons,xn];decide) h.ne h.lat
 rw [body_num (lo:=0) (hi:=1048576) (z:=p.nodes) (f:=fun q=>{ q with nodes:=p.nodes }) (by omega) (fun r hr=>by show nodesK _ _=_;unfold nodesK;rw [hr]) yn (by simpa using r5) r6 (by omega)] at f8
 rw [linesQ_cons f8]
 obtain ⟨b9,f9⟩:=line_hi ⟨p.lv,p.od,p.ch,p.st,p.sens,p.steps,p.paths,p.nodes,0⟩ 7 l2 b8 [c1,c2] 8 (by omega) (by rw [List.headD_cons,xc];decide) h.ne h.lat
 rw [body_num (lo:=0) (hi:=1099511627776) (z:=p.conf) (f:=fun q=>{ q with conf:=p.conf }) (by omega) (fun r hr=>by show confK _ _=_;unfold confK;rw [hr]) yc (by simpa using r7) r8 (by omega)] at f9
 rw [linesQ_cons f9]
 rfl
theorem okw_name {s:Bs} (h:nameB s=true):OkWd s:=by
 unfold nameB at h
 simp only [Bool.and_eq_true,decide_eq_true_eq] at h
 obtain ⟨⟨⟨h1,_⟩,_⟩,h3⟩:=h
 refine ⟨by rintro rfl;simp at h1,fun d hd=>?_⟩
 have:=namB_bd (List.all_eq_true.1 h3 d hd)
 simp [plB];omega
theorem getD_name {l:List Bs} (h:∀ s ∈ l,nameB s=true) {b:Int} (h0:0≤b) (h1:b<(l.length:Int)):nameB (l.getD b.toNat [])=true:=by
 have hlt:b.toNat<l.length:=by omega
 have e:l.getD b.toNat []=l[b.toNat]:=by rw [List.getD_eq_getElem?_getD,List.getElem?_eq_getElem hlt];rfl
 rw [e];exact h _ (List.getElem_mem _)
theorem okw_linesP (p:Po) (h:PoOk p):∀ l ∈ linesPW p,l ≠ []∧∀ w ∈ l,OkWd w:=by
 have hrg:=h.rg
 unfold rangeB at hrg
 simp only [Bool.and_eq_true,decide_eq_true_eq] at hrg
 obtain ⟨⟨⟨⟨r1,r2⟩,r3,r4⟩,r5,r6⟩,r7,r8⟩:=hrg
 have k1:OkWd kLevel:=okw_lit (by decide)
 have k2:OkWd kOrder:=okw_lit (by decide)
 have k3:OkWd kChan:=okw_lit (by decide)
 have k4:OkWd kSite:=okw_lit (by decide)
 have k5:OkWd kMode:=okw_lit (by decide)
 have k6:OkWd kSteps:=okw_lit (by decide)
 have k7:OkWd kPaths:=okw_lit (by decide)
 have k8:OkWd kNodes:=okw_lit (by decide)
 have k9:OkWd kConf:=okw_lit (by decide)
 have k10:OkWd kSens:=okw_lit (by decide)
 have k11:OkWd kInsens:=okw_lit (by decide)
 intro l hl
 unfold linesPW at hl
 simp only [List.mem_append,List.mem_map,List.mem_cons,List.not_mem_nil,or_false] at hl
 rcases hl with (((⟨s,hs,rfl⟩ | ⟨q,hq,rfl⟩) | ⟨q,hq,rfl⟩) | ⟨q,hq,rfl⟩) | rfl | rfl | rfl | rfl | rfl
 ·refine ⟨by simp,fun w hw=>?_⟩
  simp at hw
  rcases hw with rfl | rfl
  ·exact k1
  ·exact okw_name (h.lv.1 _ hs)
 ·have:=(lat_pairs h.lat).2 q hq
  unfold pairB at this
  simp only [Bool.and_eq_true,decide_eq_true_eq] at this
  refine ⟨by simp,fun w hw=>?_⟩
  simp only [List.mem_cons,List.not_mem_nil,or_false] at hw
  rcases hw with rfl | rfl | rfl
  ·exact k2
  ·exact okw_name (getD_name h.lv.1 this.1.1 this.1.2)
  ·exact okw_name (getD_name h.lv.1 this.2.1 this.2.2)
 ·have:=h.ch.2.1 q hq
  refine ⟨by simp [lineW,lineL],fun w hw=>?_⟩
  simp only [lineW,lineL,List.mem_cons,List.not_mem_nil,or_false] at hw
  rcases hw with rfl | rfl | rfl
  ·exact k3
  ·exact okw_name this.1
  ·exact okw_name (getD_name h.lv.1 this.2.1 this.2.2)
 ·have:=h.st.2.1 q hq
  refine ⟨by simp [lineW,lineL],fun w hw=>?_⟩
  simp only [lineW,lineL,List.mem_cons,List.not_mem_nil,or_false] at hw
  rcases hw with rfl | rfl | rfl
  ·exact k4
  ·exact okw_name this.1
  ·exact okw_name (getD_name h.lv.1 this.2.1 this.2.2)
 ·refine ⟨by simp,fun w hw=>?_⟩
  simp only [List.mem_cons,List.not_mem_nil,or_false] at hw
  rcases hw with rfl | rfl
  ·exact k5
  ·split
   ·exact k10
   ·exact k11
 all_goals
  refine ⟨by simp,fun w hw=>?_⟩
  simp only [List.mem_cons,List.not_mem_nil,or_false] at hw
  rcases hw with rfl | rfl
  ·assumption
  ·exact okw_itoa _ (by omega)
theorem parse_printP (p:Po) (h:checkP p=0) (hl:(textP p).length≤65536):parseQ (textP p) = .ok p:=by
 have hk:=(checkP_iff p).1 h
 obtain ⟨o,ho,hx⟩:=ls_text (linesPW p) 1 [] (okw_linesP p hk)
 unfold parseQ
 rw [if_neg (by omega)]
 have ht:tok (textP p) = .ok o:=by rw [List.nil_append] at ho;exact ho
 rw [ht]
 exact lines_backP p hk o hx _
end Go.Proofs.YtbijamcoibonkaaDoor
