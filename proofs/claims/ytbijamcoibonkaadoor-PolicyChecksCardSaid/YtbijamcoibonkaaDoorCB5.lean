/-
 A region that draws its order, inside a fence that lets in every function, also within a round of a range over a function: what yields its value in every world that meets S may be taken first.
 A region that draws its order, inside a fence that lets in every function: S holds up to operation number z, and is not asked for behind it.
-/
import Derived.Test.YtbijamcoibonkaaDoorCB1
import Derived.OrdersHeld
import Derived.OrdersIn
import Derived.Test.YtbijamcoibonkaaDoorCSTkW
import Derived.Laws.IdiomStrings
import Derived.Laws.Concat
import Derived.IntWalk
namespace Go.Proofs.YtbijamcoibonkaaDoor
set_option linter.unusedSimpArgs false
set_option linter.unusedVariables false
open Go.RowKit
section
variable {F:Fence} {n:Nat} {P:Program} {ops:Array Oper} {Q:Exit→Act→World→Prop} {md:Region.Mode} {S:World→Prop}
def noDefer (ops:Array Oper):Bool:=ops.all fun o=>match o.op with | .defer _=>false | _=>true
theorem noDefer_spec (h:noDefer ops=true) (j:Nat) (o:Oper) (ho:ops[j]?=some o) (c:Call):o.op ≠ .defer c:=by
 intro e
 obtain ⟨hj,rfl⟩:=Array.getElem?_eq_some_iff.1 ho
 have:=(Array.all_eq_true.1 h) j hj
 rw [e] at this
 simp at this
theorem yieldsIf_opIn (hF:∀ f,F.fn f) {i:Nat} {o:Oper} {v:Value} {a:Act} (hi:ops[i]?=some o) (hd:∀ c,o.op ≠ .defer c) (hy:YieldsIf P ops S o v a)
  {K:Act→World→Prop} {w:World} (hS:S w) (h:K (a.put o.dst v) w):wpOpIn F n P ops Q i K a w:=by
 unfold wpOpIn
 simp only [hi]
 rcases hy with ⟨hw,hv⟩ | ⟨hw,rfl⟩
 ·rw [if_pos hw]
  refine ⟨fun f _=>hF f,?_⟩
  rw [Oper.semAt_eq _ _ _ hd,hv w hS]
  exact h
 ·rw [if_neg (by simp [hw])]
  exact ⟨fun f _=>hF f,h⟩
theorem opIn_putIf (hF:∀ f,F.fn f) {j:Nat} {oi oj:Oper} {v:Value} (hj:ops[j]?=some oj) (hap:oi.apart ops oj=true)
  (hsi:∀ cs b,oi.op ≠ .select cs b) (hsj:∀ cs b,oj.op ≠ .select cs b) (hdj:∀ c,oj.op ≠ .defer c)
  (hQ:∀ c a w,Q (.panic c) (a.put oi.dst v) w→Q (.panic c) a w) {K:Act→World→Prop} {a:Act} {w:World}
  (hy:YieldsIf P ops S oi v a) (h:wpOpIn F n P ops Q j K (a.put oi.dst v) w) :
  wpOpIn F n P ops Q j (fun a' w'=>YieldsIf P ops S oi v a'∧K (a'.put oi.dst v) w') a w:=by
 obtain ⟨h1,h2,h3⟩:=Oper.apart_spec hap
 have keep:∀ u,YieldsIf P ops S oi v (a.put oj.dst u):=fun u =>
  hy.of_same (execOp_put oi hsi a oj.dst u h3) (wanted_put oi a oj.dst u h3)
 unfold wpOpIn at *
 simp only [hj] at *
 rw [wanted_put oj a oi.dst v h1] at h
 split
 ·rename_i hw
  rw [if_pos hw] at h
  have h:=h.2
  refine ⟨fun f _=>hF f,?_⟩
  rw [Oper.semAt_eq _ _ _ hdj] at h ⊢
  rw [execOp_put oj hsj a oi.dst v h1] at h
  generalize (execOp a.eval oj).run P w=r at *
  cases r with
  | ok x w' =>
   cases x <;> simp only [Oper.uponIn] at h ⊢
   case value u=>exact ⟨keep u,by rw [← Act.put_comm a v u h2];exact h⟩
   case skip=>exact ⟨keep _,by rw [← Act.put_comm a v undef h2];exact h⟩
   case defer d =>
    refine ⟨(show YieldsIf P ops S oi v { a with defers:=d :: a.defers } from hy.of_same rfl rfl).of_same (execOp_put oi hsi _ oj.dst _ h3) (wanted_put oi _ oj.dst _ h3),?_⟩
    rw [← Act.put_comm _ v undef h2,← Act.put_defers]
    exact h
   case enter f args =>
    refine ⟨h.1,CallsIn.mono h.2 fun e w'' he=>?_⟩
    cases e with
    | returned u=>exact ⟨keep u,by rw [← Act.put_comm a v u h2];exact he⟩
    | panicked c=>exact hQ _ _ _ he
    | outgrown=>exact he
   case row row args=>exact ⟨h.1,RowsIn.mono h.2 fun u w'' he=>⟨keep u,by rw [← Act.put_comm a v u h2];exact he⟩⟩
   case round l f tmps assign body =>
    refine ⟨h.1,RoundIn.mono h.2 fun e w'' he=>?_⟩
    cases e with
    | returned u=>exact ⟨keep u,by rw [← Act.put_comm a v u h2];exact he⟩
    | panicked c=>exact hQ _ _ _ he
    | outgrown=>exact he
  | halt x w' =>
   cases x <;> simp only [Oper.uponIn] at h ⊢
   case panic u=>exact hQ _ _ _ h
 ·rename_i hw
  rw [if_neg hw] at h
  exact ⟨fun f _=>hF f,keep _,by rw [← Act.put_comm a v undef h2];exact h.2⟩
def aheadOf (md:Region.Mode) (ops:Array Oper) (z i:Nat):Bool :=
 match ops[z]? with
 | none=>true
 | some o=>i != z && o.after.any fun e=>Region.binds md e && e.on == i
end
section
variable {F:Fence} {n:Nat} {P:Program} {ops:Array Oper} {Q:Exit→Act→World→Prop} {md:Region.Mode} {S:World→Prop}
theorem getD_set_same' {l:Array Bool} {z:Nat} {d:Bool} (h:z<l.size):(l.setIfInBounds z true).getD z d=true:=by simp [h]
def wpHJ (F:Fence) (n:Nat) (P:Program) (md:Region.Mode) (ops:Array Oper) (Q:Exit→Act→World→Prop) (S:World→Prop) (z:Nat):Nat→Array Bool→Act→World→Prop
 | 0,listed,a,w=>Region.ready md ops listed=[]∧Q .normal a w
 | fuel+1,listed,a,w =>
  (Region.ready md ops listed=[]→Q .normal a w) ∧
  ∀ i ∈ Region.ready md ops listed,wpOpIn F n P ops Q i (fun a' w'=>(i=z∨listed.getD z false=true∨S w')∧wpHJ F n P md ops Q S z fuel (listed.setIfInBounds i true) a' w') a w
theorem wpAnyIn_of_HJ {z:Nat}:∀ (fuel:Nat) (listed:Array Bool) (a:Act) (w:World),wpHJ F n P md ops Q S z fuel listed a w→wpAnyIn F n P md ops Q fuel listed a w
 | 0,_,_,_,h=>h
 | fuel+1,_,_,_,h=>⟨h.1,fun i hi=>wpOpIn_mono (fun a' w' h'=>wpAnyIn_of_HJ fuel _ a' w' h'.2) (h.2 i hi)⟩
theorem wpHJ_first {z:Nat} (hF:∀ f,F.fn f) {i:Nat} {oi:Oper} {v:Value} (hi:ops[i]?=some oi) (hiz:i ≠ z) (hz:aheadOf md ops z i=true) (hsel:∀ (j:Nat) (o:Oper) cs b,ops[j]?=some o→o.op ≠ .select cs b)
  (hdef:∀ (j:Nat) (o:Oper),ops[j]?=some o→∀ c,o.op ≠ .defer c) (hQ:∀ c a w,Q (.panic c) (a.put oi.dst v) w→Q (.panic c) a w) :
  ∀ (fuel:Nat) (listed:Array Bool) (a:Act) (w:World),
   (∀ j oj,ops[j]?=some oj→j ≠ i→listed.getD j true=false→(∀ e ∈ oj.after,Region.binds md e=true→e.on ≠ i)→oi.apart ops oj=true) →
   i ∈ Region.ready md ops listed→YieldsIf P ops S oi v a→listed.getD z false=false→S w →
   wpHJ F n P md ops Q S z fuel (listed.setIfInBounds i true) (a.put oi.dst v) w→wpHJ F n P md ops Q S z (fuel+1) listed a w:=by
 intro fuel
 induction fuel with
 | zero =>
  intro listed a w _ hr hy hlz hS H
  refine ⟨fun h=>(by rw [h] at hr;cases hr),fun j hj=>?_⟩
  by_cases hji:j=i
  ·subst hji;exact yieldsIf_opIn hF hi (hdef _ _ hi) hy hS ⟨.inr (.inr hS),H⟩
  ·have:=ready_mono hj hji
   rw [H.1] at this
   cases this
 | succ fuel ih =>
  intro listed a w hfree hr hy hlz hS H
  refine ⟨fun h=>(by rw [h] at hr;cases hr),fun j hj=>?_⟩
  by_cases hji:j=i
  ·subst hji;exact yieldsIf_opIn hF hi (hdef _ _ hi) hy hS ⟨.inr (.inr hS),H⟩
  ·have h1:=H.2 j (ready_mono hj hji)
   obtain ⟨hjun,oj,hoj,hall⟩:=mem_ready.1 hj
   have hnot:∀ e ∈ oj.after,Region.binds md e=true→e.on ≠ i:=fun e he hb heq=>by
    have g1:=hall e he hb
    have g0:=(mem_ready.1 hr).1
    rw [heq] at g1
    rcases Nat.lt_or_ge i listed.size with h' | h'
    ·simp [h'] at g0 g1;rw [g0] at g1;cases g1
    ·simp [Array.getElem?_eq_none h'] at g1
   have hjz:j ≠ z:=fun e=>by
    subst e
    simp only [aheadOf,hoj,Bool.and_eq_true,bne_iff_ne] at hz
    obtain ⟨x,hx,hb⟩:=Array.any_eq_true'.1 hz.2
    simp only [Bool.and_eq_true,beq_iff_eq] at hb
    exact hnot x hx hb.1 hb.2
   have h2:=opIn_putIf hF hoj (hfree j oj hoj hji hjun hnot) (fun cs b=>hsel i oi cs b hi) (fun cs b=>hsel j oj cs b hoj) (hdef j oj hoj) hQ hy h1
   have hfree':∀ k ok,ops[k]?=some ok→k ≠ i→(listed.setIfInBounds j true).getD k true=false →
     (∀ e ∈ ok.after,Region.binds md e=true→e.on ≠ i)→oi.apart ops ok=true:=fun k ok hk hki hun hno=>by
    refine hfree k ok hk hki ?_ hno
    by_cases hjk:j=k
    ·subst hjk;exact hjun
    ·rw [getD_set_ne true hjk] at hun;exact hun
   refine wpOpIn_mono (fun a' w' h3=>?_) h2
   have hS':S w':=(h3.2.1.resolve_left hjz).resolve_left (by rw [getD_set_ne false hiz,hlz];decide)
   refine ⟨.inr (.inr hS'),ih (listed.setIfInBounds j true) a' w' hfree' (ready_mono hr (Ne.symm hji)) h3.1 (by rw [getD_set_ne false hjz];exact hlz) hS' ?_⟩
   rw [Array.setIfInBounds_comm _ _ hji]
   exact h3.2.2
theorem wpHJ_pure0 {z:Nat} (hF:∀ f,F.fn f) {i:Nat} {oi:Oper} {v:Value} (hi:ops[i]?=some oi) (hiz:i ≠ z) (hsel:∀ (j:Nat) (o:Oper) cs b,ops[j]?=some o→o.op ≠ .select cs b)
  (hdef:∀ (j:Nat) (o:Oper),ops[j]?=some o→∀ c,o.op ≠ .defer c) (hQ:∀ c a w,Q (.panic c) (a.put oi.dst v) w→Q (.panic c) a w) :
  ∀ (fuel:Nat) (listed:Array Bool) (a:Act) (w:World),z<listed.size →
   (∀ j oj,ops[j]?=some oj→j ≠ i→listed.getD j true=false→(∀ e ∈ oj.after,Region.binds md e=true→e.on ≠ i)→oi.apart ops oj=true) →
   i ∈ Region.ready md ops listed→YieldsIf P ops (fun _=>True) oi v a→(listed.getD z false=true∨S w) →
   wpHJ F n P md ops Q S z fuel (listed.setIfInBounds i true) (a.put oi.dst v) w→wpHJ F n P md ops Q S z (fuel+1) listed a w:=by
 intro fuel
 induction fuel with
 | zero =>
  intro listed a w _ _ hr hy hS H
  refine ⟨fun h=>(by rw [h] at hr;cases hr),fun j hj=>?_⟩
  by_cases hji:j=i
  ·subst hji;exact yieldsIf_opIn hF hi (hdef _ _ hi) hy trivial ⟨.inr hS,H⟩
  ·have:=ready_mono hj hji
   rw [H.1] at this
   cases this
 | succ fuel ih =>
  intro listed a w hz hfree hr hy hS H
  refine ⟨fun h=>(by rw [h] at hr;cases hr),fun j hj=>?_⟩
  by_cases hji:j=i
  ·subst hji;exact yieldsIf_opIn hF hi (hdef _ _ hi) hy trivial ⟨.inr hS,H⟩
  ·have h1:=H.2 j (ready_mono hj hji)
   obtain ⟨hjun,oj,hoj,hall⟩:=mem_ready.1 hj
   have hnot:∀ e ∈ oj.after,Region.binds md e=true→e.on ≠ i:=fun e he hb heq=>by
    have g1:=hall e he hb
    have g0:=(mem_ready.1 hr).1
    rw [heq] at g1
    rcases Nat.lt_or_ge i listed.size with h' | h'
    ·simp [h'] at g0 g1;rw [g0] at g1;cases g1
    ·simp [Array.getElem?_eq_none h'] at g1
   have h2:=opIn_putIf hF hoj (hfree j oj hoj hji hjun hnot) (fun cs b=>hsel i oi cs b hi) (fun cs b=>hsel j oj cs b hoj) (hdef j oj hoj) hQ hy h1
   have hfree':∀ k ok,ops[k]?=some ok→k ≠ i→(listed.setIfInBounds j true).getD k true=false →
     (∀ e ∈ ok.after,Region.binds md e=true→e.on ≠ i)→oi.apart ops ok=true:=fun k ok hk hki hun hno=>by
    refine hfree k ok hk hki ?_ hno
    by_cases hjk:j=k
    ·subst hjk;exact hjun
    ·rw [getD_set_ne true hjk] at hun;exact hun
   refine wpOpIn_mono (fun a' w' h3=>?_) h2
   have hS':(listed.setIfInBounds j true).getD z false=true∨S w':=by
    rcases h3.2.1 with e | e | e
    ·subst e;exact .inl (getD_set_same' hz)
    ·by_cases hjz:j=z
     ·subst hjz;exact .inl (getD_set_same' hz)
     ·exact .inl (by rw [getD_set_ne false hjz,← getD_set_ne false hiz];exact e)
    ·exact .inr e
   refine ⟨?_,ih (listed.setIfInBounds j true) a' w' (by simpa using hz) hfree' (ready_mono hr (Ne.symm hji)) h3.1 hS' ?_⟩
   ·rcases h3.2.1 with e | e | e
    ·exact .inl e
    ·exact .inr (.inl (by rw [← getD_set_ne false hiz];exact e))
    ·exact .inr (.inr e)
   rw [Array.setIfInBounds_comm _ _ hji]
   exact h3.2.2
theorem wpHJ_take (i:Nat) {z:Nat} {oi:Oper} {v:Value} {fuel:Nat} {listed:Array Bool} {a:Act} {w:World} (hF:∀ f,F.fn f) (hi:ops[i]?=some oi)
  (hz:(aheadOf md ops z i && i != z && !listed.getD z false && Region.noSelect ops && noDefer ops && Region.free md ops listed i && (Region.ready md ops listed).contains i)=true)
  (hQ:∀ c a w,Q (.panic c) (a.put oi.dst v) w→Q (.panic c) a w) (hy:YieldsIf P ops S oi v a) (hS:S w)
  (h:wpHJ F n P md ops Q S z fuel (listed.setIfInBounds i true) (a.put oi.dst v) w):wpHJ F n P md ops Q S z (fuel+1) listed a w:=by
 simp only [Bool.and_eq_true] at hz
 obtain ⟨⟨⟨⟨⟨⟨h1,hne⟩,hl⟩,hs⟩,hd⟩,hf⟩,hr⟩:=hz
 exact wpHJ_first hF hi (by simpa using hne) h1 (Region.noSelect_spec hs) (noDefer_spec hd) hQ fuel listed a w (Region.free_spec hi hf) (by simpa using hr) hy (by simpa using hl) hS h
theorem wpHJ_pure (i:Nat) {z:Nat} {oi:Oper} {v:Value} {fuel:Nat} {listed:Array Bool} {a:Act} {w:World} (hF:∀ f,F.fn f) (hi:ops[i]?=some oi)
  (hz:(i != z && decide (z<listed.size) && Region.noSelect ops && noDefer ops && Region.free md ops listed i && (Region.ready md ops listed).contains i)=true)
  (hQ:∀ c a w,Q (.panic c) (a.put oi.dst v) w→Q (.panic c) a w) (hy:YieldsIf P ops (fun _=>True) oi v a) (hS:listed.getD z false=true∨S w)
  (h:wpHJ F n P md ops Q S z fuel (listed.setIfInBounds i true) (a.put oi.dst v) w):wpHJ F n P md ops Q S z (fuel+1) listed a w:=by
 simp only [Bool.and_eq_true] at hz
 obtain ⟨⟨⟨⟨⟨hne,hl⟩,hs⟩,hd⟩,hf⟩,hr⟩:=hz
 exact wpHJ_pure0 hF hi (by simpa using hne) (Region.noSelect_spec hs) (noDefer_spec hd) hQ fuel listed a w (by simpa using hl) (Region.free_spec hi hf) (by simpa using hr) hy hS h
theorem wpHJ_only (i:Nat) {z:Nat} {oi:Oper} {fuel:Nat} {listed:Array Bool} {a:Act} {w:World} (hr:Region.ready md ops listed=[i]) (hi:ops[i]?=some oi)
  (h:∀ K:Act→World→Prop,(∀ a' w',(i=z∨listed.getD z false=true∨S w')→wpHJ F n P md ops Q S z fuel (listed.setIfInBounds i true) a' w'→K a' w') →
   if Region.wanted oi (yielded ops a.tmps) then oi.wpIn F n P a w K Q else (∀ f,oi.about P w a.eval=some f→F.fn f)∧K (a.put oi.dst undef) w) :
  wpHJ F n P md ops Q S z (fuel+1) listed a w:=by
 refine ⟨fun h0=>(by rw [h0] at hr;cases hr),fun j hj=>?_⟩
 rw [hr] at hj
 obtain rfl:j=i:=by simpa using hj
 unfold wpOpIn
 simp only [hi]
 exact h _ (fun a' w' h1 h2=>⟨h1,h2⟩)
theorem wpHJ_done {z:Nat} {listed:Array Bool} {a:Act} {w:World} (hr:Region.ready md ops listed=[]) (h:Q .normal a w):∀ fuel,wpHJ F n P md ops Q S z fuel listed a w
 | 0=>⟨hr,h⟩
 | _+1=>⟨fun _=>h,by rw [hr];simp⟩
def onlyN (Q:Exit→Act→World→Prop):Exit→Act→World→Prop
 | .normal,a,w=>Q .normal a w
 | _,_,_=>False
theorem wpIn_onlyN {c:Code} {a:Act} {w:World} (h:c.wpIn F n P (onlyN Q) a w):c.wpIn F n P Q a w :=
 wpIn_mono h (by intro e a w h;cases e <;> first | exact h | exact h.elim)
theorem wpIn_region_HJ (S:World→Prop) (z:Nat) {id:Nat} {a:Act} {w:World} (hm:P.follows .mixedOrders=true)
  (h:wpHJ F n P .any ops Q S z ops.size (Array.replicate ops.size false) a w.drew):(Code.region id ops true).wpIn F n P Q a w :=
 wpIn_region_any hm (wpAnyIn_of_HJ _ _ _ _ h)
end
theorem actP:(∀ (l:List Value) (i:Nat) (h:i<l.toArray.size),l.toArray[i]=l[i]'(by simpa using h))∧(∀ (x:Value) (l:List Value) (i:Nat) (h:i+1<(x :: l).length),(x :: l)[i+1]=l[i]'(by simpa using h))∧(∀ (x:Value) (l:List Value) (h:0<(x :: l).length),(x :: l)[0]=x) ∧
  (∀ (l:List Value) (i:Nat) (v:Value),l.toArray.setIfInBounds i v=(l.set i v).toArray)∧(∀ (x v:Value) (l:List Value),(x :: l).set 0 v=v :: l)∧∀ (x v:Value) (l:List Value) (i:Nat),(x :: l).set (i+1) v=x :: l.set i v :=
 ⟨fun _ _ _=>by simp,fun _ _ _ _=>rfl,fun _ _ _=>rfl,fun _ _ _=>by simp,fun _ _ _=>rfl,fun _ _ _ _=>rfl⟩
theorem actQ:(∀ (l:List Oper) (i:Nat) (h:i<l.toArray.size),l.toArray[i]=l[i]'(by simpa using h))∧(∀ (x:Oper) (l:List Oper) (i:Nat) (h:i+1<(x :: l).length),(x :: l)[i+1]=l[i]'(by simpa using h))∧∀ (x:Oper) (l:List Oper) (h:0<(x :: l).length),(x :: l)[0]=x :=
 ⟨fun _ _ _=>by simp,fun _ _ _ _=>rfl,fun _ _ _=>rfl⟩
theorem nE {Q:Exit→Act→World→Prop} {d:Option Nat} {v:Value}:∀ (c:List PanicEntry) (a:Act) (w:World),onlyN Q (.panic c) (a.put d v) w→onlyN Q (.panic c) a w:=fun _ _ _ h=>h.elim
theorem fT:∀ f,Fence.wide.fn f:=fun _=>trivial
theorem rgN {P:Program} {ops:Array Oper} {Q:Exit→Act→World→Prop} (S:World→Prop) (z:Nat) {id:Nat} {a:Act} {w:World} (hm:P.follows .mixedOrders=true)
  (h:wpHJ Fence.wide 9 P .any ops (onlyN Q) S z ops.size (Array.replicate ops.size false) a w.drew):(Code.region id ops true).wp P Q a w :=
 (wpIn_wide (n:=9)).1 (wpIn_onlyN (wpIn_region_HJ S z hm h))
theorem wpHJ_nx {P:Program} {ops:Array Oper} {Q:Exit→Act→World→Prop} {md:Region.Mode} {S:World→Prop} {n i z:Nat} {oi:Oper} {v:Value} {fuel:Nat} {listed:Array Bool} {a:Act} {w:World} (N:Nat) (hN:i+(fuel+1)=N) (hi:ops[i]?=some oi)
  (hz:(aheadOf md ops z i && i != z && !listed.getD z false && Region.noSelect ops && noDefer ops && Region.free md ops listed i && (Region.ready md ops listed).contains i)=true)
  (hQ:∀ c a w,Q (.panic c) (a.put oi.dst v) w→Q (.panic c) a w) (hS:S w) (hy:YieldsIf P ops S oi v a)
  (h:wpHJ Fence.wide n P md ops Q S z fuel (listed.setIfInBounds i true) (a.put oi.dst v) w):wpHJ Fence.wide n P md ops Q S z (fuel+1) listed a w :=
 wpHJ_take i (fun _=>trivial) hi hz hQ hy hS h
theorem wpHJ_np {P:Program} {ops:Array Oper} {Q:Exit→Act→World→Prop} {md:Region.Mode} {S:World→Prop} {n i z:Nat} {oi:Oper} {v:Value} {fuel:Nat} {listed:Array Bool} {a:Act} {w:World} (N:Nat) (hN:i+(fuel+1)=N) (hi:ops[i]?=some oi)
  (hz:(i != z && decide (z<listed.size) && Region.noSelect ops && noDefer ops && Region.free md ops listed i && (Region.ready md ops listed).contains i)=true)
  (hQ:∀ c a w,Q (.panic c) (a.put oi.dst v) w→Q (.panic c) a w) (hS:listed.getD z false=true∨S w) (hy:YieldsIf P ops (fun _=>True) oi v a)
  (h:wpHJ Fence.wide n P md ops Q S z fuel (listed.setIfInBounds i true) (a.put oi.dst v) w):wpHJ Fence.wide n P md ops Q S z (fuel+1) listed a w :=
 wpHJ_pure i (fun _=>trivial) hi hz hQ hy hS h
end Go.Proofs.YtbijamcoibonkaaDoor
namespace Go.Proofs.YtbijamcoibonkaaDoor
set_option linter.unusedSimpArgs false
set_option linter.unusedVariables false
open Go.RowKit Go.Shelf
attribute [local go_sem] Oper.semAt_some
theorem conv1 (c:UInt8) (w:World):(convert 66 9 (.slice (some ⟨w.heap.size,0,none⟩) 1 1)).run Tryd.prog (w.alloc (.cells #[.int .u8 (c.toNat:Int)] 5)) = .ok (.string ⟨#[c]⟩) (w.alloc (.cells #[.int .u8 (c.toNat:Int)] 5)):=by
 refine run_convert_bytes_back _ _ _ _ _ _ [c] Tryd.underlying66 Tryd.underlying5 Tryd.underlying9 ?_
 intro j hj
 obtain rfl:j=0:=by simp at hj;omega
 exact cell_lit _ _ _ _
theorem Acc.tail {B eo ew g cp kk:Nat} {w:World} {vo:Value} {out:List (List Wd)} {init:List Wd} {x:Wd} (c:UInt8) (h:Acc B eo ew w vo (.slice (some ⟨g,0,none⟩) kk cp) out (init++[x])) :
  Acc B eo ew (w.setCell ⟨g,init.length*3,none⟩ (.string ⟨(x.1++[c]).toArray⟩)) vo (.slice (some ⟨g,0,none⟩) kk cp) out (init++[(x.1++[c],x.2)]):=by
 obtain ⟨⟨vs,h1,h2,h3⟩,h4,h5⟩:=h
 have hf:∀ k,k ≠ g→(w.setCell ⟨g,init.length*3,none⟩ (.string ⟨(x.1++[c]).toArray⟩)).heap[k]?=w.heap[k]?:=fun k hk=>Below.heap_setCell _ _ _ _ hk
 refine ⟨⟨vs,owns_keepG h1 fun j hj=>hf j fun e=>h5 j hj (by rw [e];rfl),h2,h3.keep fun k hb hs hx=>⟨hf k fun e=>hx.2 (by rw [e];rfl),hx⟩⟩,?_,h5⟩
 ·obtain ⟨hl,h4⟩:=h4
  rcases h4 with ⟨e,_⟩ | ⟨g',cap,cur,e,hb,hg,hn,hm,hs,ht⟩
  ·cases e
  ·cases e
   have el:(init++[(x.1++[c],x.2)]).length=(init++[x]).length:=by simp
   rw [el]
   refine ⟨by rw [wflat_len,el],.inr ⟨g,cp,_,rfl,hb,heap_setCell_at (init.length*3) _ hg,hn,hm,by simpa using hs,?_⟩⟩
   rw [Array.toList_setIfInBounds,List.take_set,ht,wflat_append,wflat_append,wflat_one,wflat_one,show init.length*3=(wflat init).length by rw [wflat_len],List.set_append_right _ _ (Nat.le_refl _),Nat.sub_self]
   rfl
structure Two (w:World) (L C:Nat) (W:World):Prop where
 b0:W.heap[w.heap.size]?=some (.cells #[.int .i64 0,.int .i64 0] 42 (0,0))
 b1:W.heap[w.heap.size+1]?=some (.cells #[.int .i64 (L:Int),.int .i64 (C:Int)] 42 (0,0))
 bel:Below w.heap.size w W
theorem Two.nl {w:World} {L C:Nat} {W:World} (h:Two w L C W) :
  Two w (L+1) 1 (((W.setCell ⟨w.heap.size+1,0,none⟩ (.int .i64 ((L:Int)+1))).setCell ⟨w.heap.size+1,1,none⟩ (.int .i64 0)).setCell ⟨w.heap.size+1,1,none⟩ (.int .i64 1)) ∧
  (∀ k,k ≠ w.heap.size+1→(((W.setCell ⟨w.heap.size+1,0,none⟩ (.int .i64 ((L:Int)+1))).setCell ⟨w.heap.size+1,1,none⟩ (.int .i64 0)).setCell ⟨w.heap.size+1,1,none⟩ (.int .i64 1)).heap[k]?=W.heap[k]?) ∧
  (((W.setCell ⟨w.heap.size+1,0,none⟩ (.int .i64 ((L:Int)+1))).setCell ⟨w.heap.size+1,1,none⟩ (.int .i64 0)).setCell ⟨w.heap.size+1,1,none⟩ (.int .i64 1)).heap.size=W.heap.size:=by
 have f1:∀ (A:World) k i v j,j ≠ k→(A.setCell ⟨k,i,none⟩ v).heap[j]?=A.heap[j]?:=fun A k i v j hj=>Below.heap_setCell _ _ _ _ hj
 refine ⟨⟨?_,?_,?_⟩,fun k hk=>(f1 _ _ _ _ _ hk).trans ((f1 _ _ _ _ _ hk).trans (f1 _ _ _ _ _ hk)),by simp⟩
 ·exact (f1 _ _ _ _ _ (by omega)).trans ((f1 _ _ _ _ _ (by omega)).trans ((f1 _ _ _ _ _ (by omega)).trans h.b0))
 ·rw [show ((L+1:Nat):Int)=(L:Int)+1 by omega]
  exact heap_setCell_at 1 _ (heap_setCell_at 1 _ (heap_setCell_at 0 _ h.b1))
 ·exact ((h.bel.setCell (by show w.heap.size≤w.heap.size+1;omega) _).setCell (by show w.heap.size≤w.heap.size+1;omega) _).setCell (by show w.heap.size≤w.heap.size+1;omega) _
end Go.Proofs.YtbijamcoibonkaaDoor
