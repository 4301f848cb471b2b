/-
 Policies, plainly: the text of a valid policy is read back (no program in sight).
-/
import Derived.Test.YtbijamcoibonkaaDoorASPoP
import Derived.Test.YtbijamcoibonkaaDoorAB6
import Derived.Test.YtbijamcoibonkaaDoorAB7
import Derived.MapKept
import Derived.IntWalk
import Derived.Laws.RangeString
import Derived.Test.YtbijamcoibonkaaDoorAB1
import Derived.Test.YtbijamcoibonkaaDoorProg
import Derived.Laws.StructEq
import Derived.Deep.QuietTactic
import Derived.BigQuiet
namespace Go.Proofs.YtbijamcoibonkaaDoor
set_option linter.unusedSimpArgs false
set_option linter.unusedVariables false
open Go.RowKit Go.Shelf
theorem bindsE_iff (n:Nat):∀ (l:List (Bs × Int)) (had:List Bs),bindsE n had l=0 ↔ (∀ b ∈ l,nameB b.1=true∧b.1 ∉ had∧0≤b.2∧b.2<(n:Int))∧(l.map (·.1)).Nodup
 | [],had=>by simp [bindsE]
 | b :: r,had=>by
  unfold bindsE
  by_cases h1:nameB b.1=false
  ·rw [if_pos h1]
   constructor
   ·intro h;cases h
   ·rintro ⟨h,_⟩
    have:=(h b (List.mem_cons_self ..)).1
    rw [h1] at this;cases this
  rw [if_neg h1]
  by_cases h2:had.contains b.1
  ·rw [if_pos h2]
   constructor
   ·intro h;cases h
   ·rintro ⟨h,_⟩
    exact absurd (List.contains_iff_mem.1 h2) (h b (List.mem_cons_self ..)).2.1
  rw [if_neg h2]
  by_cases h3:b.2<0∨(n:Int)≤b.2
  ·rw [if_pos h3]
   constructor
   ·intro h;cases h
   ·rintro ⟨h,_⟩
    have:=(h b (List.mem_cons_self ..)).2.2
    omega
  rw [if_neg h3,bindsE_iff n r (had++[b.1])]
  have h2':b.1 ∉ had:=fun e=>h2 (List.contains_iff_mem.2 e)
  simp only [Bool.not_eq_false] at h1
  constructor
  ·rintro ⟨ha,hb⟩
   refine ⟨fun c hc=>?_,?_⟩
   ·rcases List.mem_cons.1 hc with rfl | hc
    ·exact ⟨h1,h2',by omega,by omega⟩
    ·obtain ⟨q1,q2,q3⟩:=ha c hc
     exact ⟨q1,fun e=>q2 (List.mem_append_left _ e),q3⟩
   ·rw [List.map_cons,List.nodup_cons]
    refine ⟨fun e=>?_,hb⟩
    obtain ⟨c,hc,e⟩:=List.mem_map.1 e
    exact (ha c hc).2.1 (by rw [e];simp)
  ·rintro ⟨ha,hb⟩
   rw [List.map_cons,List.nodup_cons] at hb
   refine ⟨fun c hc=>?_,hb.2⟩
   obtain ⟨q1,q2,q3⟩:=ha c (List.mem_cons_of_mem _ hc)
   refine ⟨q1,fun e=>?_,q3⟩
   rcases List.mem_append.1 e with e | e
   ·exact q2 e
   ·rw [List.mem_singleton] at e
    exact hb.1 (by rw [← e];exact List.mem_map_of_mem hc)
theorem levelsE_iff:∀ (l had:List Bs),levelsE had l=0 ↔ (∀ s ∈ l,nameB s=true∧s ∉ had)∧l.Nodup
 | [],had=>by simp [levelsE]
 | b :: r,had=>by
  unfold levelsE
  by_cases h1:nameB b=false
  ·rw [if_pos h1]
   constructor
   ·intro h;cases h
   ·rintro ⟨h,_⟩
    have:=(h b (List.mem_cons_self ..)).1
    rw [h1] at this;cases this
  rw [if_neg h1]
  by_cases h2:had.contains b
  ·rw [if_pos h2]
   constructor
   ·intro h;cases h
   ·rintro ⟨h,_⟩
    exact absurd (List.contains_iff_mem.1 h2) (h b (List.mem_cons_self ..)).2
  rw [if_neg h2,levelsE_iff r (had++[b])]
  have h2':b ∉ had:=fun e=>h2 (List.contains_iff_mem.2 e)
  simp only [Bool.not_eq_false] at h1
  constructor
  ·rintro ⟨ha,hb⟩
   refine ⟨fun c hc=>?_,?_⟩
   ·rcases List.mem_cons.1 hc with rfl | hc
    ·exact ⟨h1,h2'⟩
    ·obtain ⟨q1,q2⟩:=ha c hc
     exact ⟨q1,fun e=>q2 (List.mem_append_left _ e)⟩
   ·rw [List.nodup_cons]
    exact ⟨fun e=>(ha b e).2 (by simp),hb⟩
  ·rintro ⟨ha,hb⟩
   rw [List.nodup_cons] at hb
   refine ⟨fun c hc=>?_,hb.2⟩
   obtain ⟨q1,q2⟩:=ha c (List.mem_cons_of_mem _ hc)
   refine ⟨q1,fun e=>?_⟩
   rcases List.mem_append.1 e with e | e
   ·exact q2 e
   ·rw [List.mem_singleton] at e
    exact hb.1 (by rw [← e];exact hc)
theorem orE_zero {a b:Int}:orE a b=0 ↔ a=0∧b=0:=by unfold orE;split <;> omega
structure PoOk (p:Po):Prop where
 ne:p.lv ≠ []
 len:p.lv.length≤32
 lv:(∀ s ∈ p.lv,nameB s=true)∧p.lv.Nodup
 lat:latE p.lv.length p.od=0
 ch:p.ch.length≤32∧(∀ b ∈ p.ch,nameB b.1=true∧0≤b.2∧b.2<(p.lv.length:Int))∧(p.ch.map (·.1)).Nodup
 st:p.st.length≤32∧(∀ b ∈ p.st,nameB b.1=true∧0≤b.2∧b.2<(p.lv.length:Int))∧(p.st.map (·.1)).Nodup
 rg:rangeB p=true
theorem listE_iff (n:Nat) (l:List (Bs × Int)):listE n l=0 ↔ l.length≤32∧(∀ b ∈ l,nameB b.1=true∧0≤b.2∧b.2<(n:Int))∧(l.map (·.1)).Nodup:=by
 unfold listE
 split
 ·constructor
  ·intro h;cases h
  ·rintro ⟨h,_⟩;omega
 ·rw [bindsE_iff]
  simp only [List.not_mem_nil,not_false_eq_true,true_and]
  exact ⟨fun h=>⟨by omega,h⟩,fun h=>h.2⟩
theorem checkP_iff (p:Po):checkP p=0 ↔ PoOk p:=by
 unfold checkP
 by_cases h1:p.lv=[]
 ·rw [if_pos h1]
  exact ⟨fun h=>(by cases h),fun h=>absurd h1 h.ne⟩
 rw [if_neg h1]
 by_cases h2:32<p.lv.length
 ·rw [if_pos h2]
  exact ⟨fun h=>(by cases h),fun h=>absurd h.len (by omega)⟩
 rw [if_neg h2,orE_zero,orE_zero,orE_zero,orE_zero,levelsE_iff,listE_iff,listE_iff]
 simp only [List.not_mem_nil,not_false_eq_true,and_true]
 constructor
 ·rintro ⟨a,b,c,d,e⟩
  exact ⟨h1,by omega,a,b,c,d,by by_cases h:rangeB p=true;exact h;rw [if_neg h] at e;cases e⟩
 ·intro h
  exact ⟨h.lv,h.lat,h.ch,h.st,by rw [if_pos h.rg]⟩
theorem next_ok {ws:List Wd} {r:RS} (h:r.ix<ws.length):nextR ws r=(ws.getD r.ix wd0,{ r with ix:=r.ix+1 }):=if_pos h
theorem lat_pairs {n:Nat} {od:List (Int × Int)} (h:latE n od=0):od.length≤1024∧∀ o ∈ od,pairB n o=true:=by
 unfold latE at h
 split at h
 ·cases h
 split at h
 ·cases h
 rename_i h1 h2
 refine ⟨by omega,?_⟩
 have:∀ (od:List (Int × Int)) (u v:List Nat),ordL n od u=some v→∀ o ∈ od,pairB n o=true:=by
  intro od
  induction od with
  | nil=>intro _ _ _ o ho;cases ho
  | cons q r ih =>
   intro u v hv o ho
   unfold ordL at hv
   split at hv
   ·rename_i hp
    rcases List.mem_cons.1 ho with rfl | ho
    ·exact hp
    ·exact ih _ _ hv o ho
   ·cases hv
 cases hq:ordL n od (upsL n) with
 | none=>rw [hq] at h;cases h
 | some u=>exact this od _ u hq
theorem getD_name {l:List Bs} (h:∀ s ∈ l,nameB s=true) {b:Int} (h0:0≤b) (h1:b<(l.length:Int)):nameB (l.getD b.toNat [])=true:=by
 have hlt:b.toNat<l.length:=by omega
 have e:l.getD b.toNat []=l[b.toNat]:=by rw [List.getD_eq_getElem?_getD,List.getElem?_eq_getElem hlt];rfl
 rw [e];exact h _ (List.getElem_mem _)
end Go.Proofs.YtbijamcoibonkaaDoor
namespace Go.Proofs.YtbijamcoibonkaaDoor
set_option linter.unusedSimpArgs false
set_option linter.unusedVariables false
open Go.RowKit Go.Shelf
attribute [local go_sem] Oper.semAt_some
open Go.RowKit
abbrev By:=List UInt8
def sV (s:By):Value := .string ⟨s.toArray⟩
def nV (n:Nat):Value := .int .u64 (n:Int)
def Strs (R:Nat→Prop) (w:World) (v:Value) (l:List By):Prop:=Sl R w v (l.map sV)
def Nums (R:Nat→Prop) (w:World) (v:Value) (l:List Nat):Prop:=Sl R w v (l.map nV)
def NLL (R:Nat→Prop) (w:World) (v:Value) (ls:List (List Nat)):Prop :=
 ∃ vs,Sl R w v vs∧vs.length=ls.length∧∀ i (h:i<ls.length) (h':i<vs.length),Nums R w vs[i] ls[i]
theorem Strs.op {R:Nat→Prop} {w:World} {v:Value} {xs:List By} (h:Strs R w v xs) :
  ∃ p c,v = .slice p xs.length c∧xs.length≤c∧c≤maxLen∧xs.length≤140737488355328∧RowR R w p (xs.map sV):=by
 obtain ⟨p,c,e,h1,h2,h3,hr⟩:=h
 rw [List.length_map] at e h1 h3
 exact ⟨p,c,e,h1,h2,h3,hr⟩
theorem Nums.op {R:Nat→Prop} {w:World} {v:Value} {xs:List Nat} (h:Nums R w v xs) :
  ∃ p c,v = .slice p xs.length c∧xs.length≤c∧c≤maxLen∧xs.length≤140737488355328∧RowR R w p (xs.map nV):=by
 obtain ⟨p,c,e,h1,h2,h3,hr⟩:=h
 rw [List.length_map] at e h1 h3
 exact ⟨p,c,e,h1,h2,h3,hr⟩
theorem NLL.op {R:Nat→Prop} {w:World} {v:Value} {xs:List (List Nat)} (h:NLL R w v xs) :
  ∃ p c vs,v = .slice p xs.length c∧xs.length≤c∧c≤maxLen∧xs.length≤140737488355328∧RowR R w p vs∧vs.length=xs.length∧∀ i (h:i<xs.length) (h':i<vs.length),Nums R w vs[i] xs[i]:=by
 obtain ⟨vs,⟨p,c,e,h1,h2,h3,hr⟩,hl,hx⟩:=h
 exact ⟨p,c,vs,by rw [← hl];exact e,by omega,h2,by omega,hr,hl,hx⟩
theorem Strs.keep {R R':Nat→Prop} {w w':World} {v:Value} {xs:List By} (h:Strs R w v xs) (hf:∀ k,R k→R' k∧w'.heap[k]?=w.heap[k]?):Strs R' w' v xs:=Sl.keep h hf
theorem Nums.keep {R R':Nat→Prop} {w w':World} {v:Value} {xs:List Nat} (h:Nums R w v xs) (hf:∀ k,R k→R' k∧w'.heap[k]?=w.heap[k]?):Nums R' w' v xs:=Sl.keep h hf
theorem NLL.keep {R R':Nat→Prop} {w w':World} {v:Value} {xs:List (List Nat)} (h:NLL R w v xs) (hf:∀ k,R k→R' k∧w'.heap[k]?=w.heap[k]?):NLL R' w' v xs :=
 let ⟨vs,h1,h2,h3⟩:=h;⟨vs,Sl.keep h1 hf,h2,fun i hi hi'=>(h3 i hi hi').keep hf⟩
theorem Strs.drewN {R:Nat→Prop} {w:World} {v:Value} {xs:List By} (h:Strs R w v xs) (n:Nat):Strs R (w.drewN n) v xs:=h.keep fun k hk=>⟨hk,rfl⟩
theorem Nums.drewN {R:Nat→Prop} {w:World} {v:Value} {xs:List Nat} (h:Nums R w v xs) (n:Nat):Nums R (w.drewN n) v xs:=h.keep fun k hk=>⟨hk,rfl⟩
theorem NLL.drewN {R:Nat→Prop} {w:World} {v:Value} {xs:List (List Nat)} (h:NLL R w v xs) (n:Nat):NLL R (w.drewN n) v xs:=h.keep fun k hk=>⟨hk,rfl⟩
theorem Strs.below {w w':World} {v:Value} {xs:List By} (h:Strs (·<w.heap.size) w v xs) (hb:Below w.heap.size w w'):Strs (·<w'.heap.size) w' v xs:=h.keep fun k hk=>⟨Nat.lt_of_lt_of_le hk hb.size,hb.block k hk⟩
theorem Nums.below {w w':World} {v:Value} {xs:List Nat} (h:Nums (·<w.heap.size) w v xs) (hb:Below w.heap.size w w'):Nums (·<w'.heap.size) w' v xs:=h.keep fun k hk=>⟨Nat.lt_of_lt_of_le hk hb.size,hb.block k hk⟩
theorem NLL.below {w w':World} {v:Value} {xs:List (List Nat)} (h:NLL (·<w.heap.size) w v xs) (hb:Below w.heap.size w w'):NLL (·<w'.heap.size) w' v xs:=h.keep fun k hk=>⟨Nat.lt_of_lt_of_le hk hb.size,hb.block k hk⟩
theorem Strs.nil {R:Nat→Prop} {w:World}:Strs R w (.slice none 0 0) []:=Sl.nil
theorem Nums.nil {R:Nat→Prop} {w:World}:Nums R w (.slice none 0 0) []:=Sl.nil
theorem NLL.nil {R:Nat→Prop} {w:World}:NLL R w (.slice none 0 0) []:=⟨[],Sl.nil,rfl,fun i h=>absurd h (by simp)⟩
theorem take_nextL {α:Type} {a b:List α} {k:Nat} (h:a.take k=b.take k) (ha:k<a.length) (hb:k<b.length) (he:a[k]=b[k]):a.take (k+1)=b.take (k+1):=by
 rw [List.take_add_one,List.take_add_one,h,List.getElem?_eq_getElem ha,List.getElem?_eq_getElem hb,he]
theorem ne_atL {α:Type} {a b:List α} {k:Nat} (ha:k<a.length) (hb:k<b.length) (he:a[k] ≠ b[k]):a ≠ b:=by
 rintro rfl;exact he rfl
theorem eq_fullL {α:Type} {a b:List α} (h:a.take a.length=b.take a.length) (hl:a.length=b.length):a=b:=by
 rw [List.take_of_length_le (Nat.le_refl _),List.take_of_length_le (by omega)] at h;exact h
theorem str_neF {x y:By} (h:x ≠ y):(x == y)=false:=by rw [beq_eq_false_iff_ne];exact h
end Go.Proofs.YtbijamcoibonkaaDoor
