/-
 A closed fact of the program: what may be entered.
-/
import Derived.Test.YtbijamcoibonkaaDoorRows
import Derived.JoinedOf
import Derived.KernelRfl
import Derived.Test.YtbijamcoibonkaaDoorCB1
import Derived.Test.YtbijamcoibonkaaDoorCB14
import Derived.Deep.Slices
import Derived.Lib.SmallJoins
import Derived.ProofKit
import Derived.HandedShaped
namespace Go.Proofs.YtbijamcoibonkaaDoor
set_option linter.unusedSimpArgs false
set_option linter.unusedVariables false
set_option maxRecDepth 100000
theorem factA:(Tryd.pinned.checked.prog.mayEnter)=true:=by kernel_rfl
set_option maxRecDepth 100000
theorem factB:((Rows.policyOrderRow.lifted == Tryd.pinned.checked.prog.liftsFinal))=true:=by kernel_rfl
set_option maxRecDepth 100000
theorem factC:((Tryd.pinned.checked.prog.make == some Rows.policyOrderRow.make))=true:=by kernel_rfl
set_option maxRecDepth 100000
theorem factLaid:(laidOutB Tryd.pinned.checked.prog)=true:=by kernel_rfl
theorem factMaps:(mapsRowed Tryd.pinned.checked.prog)=true:=by kernel_rfl
theorem factStops:((Tryd.pinned.checked.prog.stops == []))=true:=by kernel_rfl
theorem factKnobs:((Tryd.pinned.checked.prog.stopKnobs == []))=true:=by kernel_rfl
theorem factKeys:((Rows.policyOrderRow.plainKeys == Tryd.pinned.checked.prog.plainKeys))=true:=by kernel_rfl
theorem factHeard:(Tryd.pinned.checked.prog.stopsHeard)=true:=by kernel_rfl
theorem andT {a b:Bool} (h:a=true) (k:b=true):(a && b)=true:=by rw [h,k];rfl
end Go.Proofs.YtbijamcoibonkaaDoor
namespace Go.Proofs.YtbijamcoibonkaaDoor
set_option linter.unusedSimpArgs false
set_option linter.unusedVariables false
open Go.ChangeShapes Go.WideShapes Go.ChangeAt Go.RowKit Go.Joins
def u8v (c:UInt8):Value := .int .u8 (c.toNat:Int)
def Bys (R:Nat→Prop) (w:World) (v:Value) (b:List UInt8):Prop:=Sl R w v (b.map u8v)
theorem Bys.op {R:Nat→Prop} {w:World} {v:Value} {xs:List UInt8} (h:Bys R w v xs) :
  ∃ p c,v = .slice p xs.length c∧xs.length≤c∧c≤maxLen∧xs.length≤140737488355328∧RowR R w p (xs.map u8v):=by
 obtain ⟨p,c,e,h1,h2,h3,hr⟩:=h
 rw [List.length_map] at e h1 h3
 exact ⟨p,c,e,h1,h2,h3,hr⟩
theorem Bys.keep {R R':Nat→Prop} {w w':World} {v:Value} {xs:List UInt8} (h:Bys R w v xs) (hf:∀ k,R k→R' k∧w'.heap[k]?=w.heap[k]?):Bys R' w' v xs:=Sl.keep h hf
theorem Bys.below {R:Nat→Prop} {w w':World} {v:Value} {xs:List UInt8} (h:Bys R w v xs) (hR:∀ k,R k→k<w.heap.size) (hb:Below w.heap.size w w'):Bys R w' v xs:=Sl.keep h fun k hk=>⟨hk,hb.block k (hR k hk)⟩
section
variable {H:Type} {enc:TypeId × Value→H} {W:World}
end
end Go.Proofs.YtbijamcoibonkaaDoor
namespace Go.Proofs.YtbijamcoibonkaaDoor
set_option linter.unusedSimpArgs false
set_option linter.unusedVariables false
open Go.RowKit Go.Shelf
attribute [local go_sem] Oper.semAt_some
open Go.ChangeShapes Go.WideShapes Go.ChangeAt Go.Joins
theorem weightsAll_memG {H:Type} {P:Program} {e:TypeId}:∀ {l:List (DataW H)} {d:DataW H},d ∈ l→∀ m ∈ d.weights P e,m ∈ DataW.weightsAll P e l
 | d' :: l,d,h,m,hm=>by
  rw [DataW.weightsAll,List.mem_append]
  rcases List.mem_cons.1 h with rfl | h
  ·exact .inl hm
  ·exact .inr (weightsAll_memG h m hm)
theorem list2G {α:Type} {l:List α} (h:l.length=2):∃ a b,l=[a,b]:=by
 match l,h with
 | [a,b],_=>exact ⟨a,b,rfl⟩
theorem cG_s:Tryd.prog.cellsOf 9=1:=by kernel_rfl
theorem cG_i:Tryd.prog.cellsOf 3=1:=by kernel_rfl
theorem bG_s:1≤Tryd.prog.bytesOf 9:=of_decide_eq_true (by kernel_rfl)
section
variable {H:Type} {enc:TypeId × Value→H} {W:World}
theorem cells_atG {W:World} {b off k n:Nat} {cs:List Value} (h:W.cells? 0 ((⟨b,off,none⟩:Addr).add (k*n)) n=some cs):cs.length=n∧∀ i,i<n→W.cell? ⟨b,off+k*n+i,none⟩=cs[i]?:=by
 obtain ⟨_,h1,h2⟩:=World.cells?_some h
 refine ⟨h1,fun i hi=>?_⟩
 have hadd:∀ o j,(⟨b,o,none⟩:Addr).add j=⟨b,o+j,none⟩:=fun o j=>by unfold Addr.add;split <;> simp_all
 rw [← h2 i hi,hadd,hadd]
theorem slg_open {α:Type} {K:EK α} {Q:α→Prop} {tS e:TypeId} (ht:Tryd.prog.underlying tS=some (.slice e)) (hc:Tryd.prog.cellsOf e=K.n) (hb:1≤Tryd.prog.bytesOf e)
  (hel:∀ (n:Nat) (cs:List Value) (y:DataW H × List MemPlace),DataW.trod enc Tryd.prog W 0 (fun _=>true) true n e cs=some y→(∀ m ∈ y.1.weights Tryd.prog e,m≤reachBytes)→∃ x,K.E (·<W.heap.size) W cs x∧Q x)
  {n:Nat} {v:Value} {y:DataW H × List MemPlace} (h:DataW.trod enc Tryd.prog W 0 (fun _=>true) true n tS [v]=some y) (hs:∀ m ∈ y.1.weights Tryd.prog tS,m≤reachBytes) :
  ∃ (l:List α) (p:Option Addr) (c:Nat),v = .slice p l.length c∧SlG K (·<W.heap.size) W v l∧(∀ x ∈ l,Q x)∧l.length*Tryd.prog.bytesOf e≤140737488351232:=by
 rcases Deep.open_slice ht h with ⟨hcs,_⟩ | ⟨a,len,cap,m,n',D,Pl,hcs,_,hl,hm,hmm,hx,hV⟩
 ·simp at hcs
  subst hcs
  exact ⟨[],none,0,rfl,SlG.nil,by simp,by simp⟩
 ·simp at hcs
  subst hcs
  simp only [if_true] at hmm
  obtain rfl:cap=m:=hmm.symm
  subst hx
  have hrb:cap*Tryd.prog.bytesOf e≤140737488351232:=by
   have:=hs ((((List.range len).map D).length+((List.range (cap - len)).map fun j=>D (len+j)).length)*Tryd.prog.bytesOf e) (by simp [DataW.weights,ht])
   simp only [List.length_map,List.length_range,reachBytes] at this
   have h3:len+(cap - len)=cap:=by omega
   rw [h3] at this
   exact this
  have hr:cap≤140737488351232:=by
   have h2:cap*1≤cap*Tryd.prog.bytesOf e:=Nat.mul_le_mul_left _ hb
   omega
  have hrow:∀ i,i<len→∃ f:List Value × α,W.cells? 0 (a.add (i*K.n)) K.n=some f.1∧K.E (·<W.heap.size) W f.1 f.2∧Q f.2:=fun i hi=>by
   obtain ⟨cs',h1,h2⟩:=hV i (by omega)
   rw [hc] at h1
   obtain ⟨x,h3,h4⟩:=hel n' cs' _ h2 (fun k hk=>hs k (by
    simp only [DataW.weights,ht,List.mem_cons,List.mem_append]
    exact .inr (.inl (weightsAll_memG (List.mem_map.2 ⟨i,List.mem_range.2 hi,rfl⟩) k hk))))
   exact ⟨(cs',x),h1,h3,h4⟩
  by_cases h0:len=0
  ·subst h0
   exact ⟨[],some a,cap,rfl,⟨[],Each.nil,some a,cap,rfl,Nat.zero_le _,hm,Nat.zero_le _,.inl rfl⟩,by simp,by simp⟩
  have hne:0<len:=by omega
  let f:Nat→List Value × α:=fun i=>if h:i<len then (hrow i h).choose else (hrow 0 hne).choose
  have hf:∀ i,i<len→W.cells? 0 (a.add (i*K.n)) K.n=some (f i).1∧K.E (·<W.heap.size) W (f i).1 (f i).2∧Q (f i).2:=fun i hi=>by
   show W.cells? 0 (a.add (i*K.n)) K.n=some (dite _ _ _:List Value × α).1∧_
   simp only [f,dif_pos hi]
   exact (hrow i hi).choose_spec
  clear_value f
  obtain ⟨b,off,spot⟩:=a
  have hspot:spot=none:=by
   have h1:=(hf 0 hne).1
   obtain ⟨_,h2,h3⟩:=World.cells?_some h1
   have h4:=h3 0 K.pos
   rw [List.getElem?_eq_getElem (by rw [h2];exact K.pos)] at h4
   simpa [Addr.add] using World.cell?_spot h4
  subst hspot
  have hE:Each K (·<W.heap.size) W ((List.range len).map fun i=>(f i).1) ((List.range len).map fun i=>(f i).2):=⟨by simp,fun i hi hi'=>by
   simp only [List.getElem_map,List.getElem_range]
   exact (hf i (by simpa using hi)).2.1⟩
  refine ⟨(List.range len).map fun i=>(f i).2,some ⟨b,off,none⟩,cap,by simp,⟨(List.range len).map fun i=>(f i).1,hE,some ⟨b,off,none⟩,cap,by simp,by simpa using hl,hm,by simp;omega,.inr ⟨b,off,rfl,?_,fun j hj=>?_⟩⟩,fun x hx=>?_,?_⟩
  ·obtain ⟨h2,h3⟩:=cells_atG (hf 0 hne).1
   have h4:=h3 0 K.pos
   rw [List.getElem?_eq_getElem (by rw [h2];exact K.pos)] at h4
   exact cell_lt h4
  ·have hn:=hE.lens
   have hl2:=hn.len
   rw [List.length_map,List.length_range] at hl2
   have hjn:j<len*K.n:=by rw [← hl2];exact hj
   have hk:j / K.n<len:=Nat.div_lt_of_lt_mul (by rw [Nat.mul_comm];exact hjn)
   have hi:j % K.n<K.n:=Nat.mod_lt _ K.pos
   have hjj:j / K.n*K.n+j % K.n=j:=by rw [Nat.mul_comm];exact Nat.div_add_mod j K.n
   have h5:=hn.at (j / K.n) (j % K.n) (by simpa using hk) hi
   rw [hjj,List.getElem?_eq_getElem hj] at h5
   simp only [List.getElem_map,List.getElem_range] at h5
   obtain ⟨_,h3⟩:=cells_atG (hf (j / K.n) hk).1
   have h6:=h3 (j % K.n) hi
   rw [Nat.add_assoc,hjj] at h6
   rw [h6,← h5]
  ·obtain ⟨i,hi,rfl⟩:=List.mem_map.1 hx
   exact (hf i (List.mem_range.1 hi)).2.2
  ·rw [List.length_map,List.length_range];exact Nat.le_trans (Nat.mul_le_mul_right _ hl) hrb
def QS (s:Bs):Prop:=s.length≤140737488355328
theorem str_valG {n:Nat} {c:Value} {y:DataW H × List MemPlace} (h:DataW.trod enc Tryd.prog W 0 (fun _=>true) true n 9 [c]=some y) (hs:∀ m ∈ y.1.weights Tryd.prog 9,m≤reachBytes):∃ s:Bs,c = .string ⟨s.toArray⟩∧s.length≤140737488355328:=by
 obtain ⟨s,e,hy,_⟩:=DataW.trod_string Tryd.underlying9 h
 simp only [List.cons.injEq,and_true] at e
 subst e
 refine ⟨s.data.toList,by rw [Array.toArray_toList],?_⟩
 have:=hs s.data.toList.length (by rw [hy];simp [DataW.weights])
 unfold reachBytes at this
 omega
theorem str_el (n:Nat) (cs:List Value) (y:DataW H × List MemPlace) (h:DataW.trod enc Tryd.prog W 0 (fun _=>true) true n 9 cs=some y) (hs:∀ m ∈ y.1.weights Tryd.prog 9,m≤reachBytes):∃ x,kStr.E (·<W.heap.size) W cs x∧QS x:=by
 obtain ⟨s,e,_⟩:=DataW.trod_string Tryd.underlying9 h
 subst e
 obtain ⟨t,e,ht⟩:=str_valG h hs
 exact ⟨t,by rw [e];rfl,ht⟩
end
end Go.Proofs.YtbijamcoibonkaaDoor
namespace Go.Proofs.YtbijamcoibonkaaDoor
set_option linter.all false
open Go.ChangeShapes Go.WideShapes Go.ChangeAt Go.WideMaps Go.WideElems Go.RowKit
variable {H:Type} {enc:TypeId × Value→H}
theorem handed_and_shaped {a:Assume} {C:Checked} {os:Os} {f:FuncId} {fn:Func} {s:ChangeSpec} {conds:List PathCond} {apart fresh handsOn again:Bool} {X:World→Array Value→Prop}
  (hX:∀ (w w':World) (args:Array Value),w.heap=w'.heap→X w args→X w' args)
  (own:ownKnob C.prog.godebug=none) (started:os.Started) (noInit:C.prog.inits.idxOf? f=none) (hfn:C.prog.funcs[f]?=some fn)
  (witness:∃ (w:World) (tape:Tape) (i:Input),w.os=os∧(w.forCall tape i).Shaped C.prog∧i.vars=[]∧Input.okWide C.prog (w.forCall tape i) .any w.heap.size f i ∧
   ((s.pre enc C.prog fn conds apart (w.forCall tape i).memory i.args∧X (w.forCall tape i).memory i.args)∧sizedMet enc C.prog fn (OpenSpec.ofChange s) apart (w.forCall tape i).memory i.args)∧a.holds C.prog (lone (Frame.enter C.prog f i.args .normal) [] (w.forCall tape i)))
  (contract:∀ (W:World) (base:Nat) (args:Array Value) (ds gs:List (DataW H)) (before:List MemPlace),
   (∀ (j:Nat) t v,fn.params[j]?=some t→args[j]?=some v→Value.okWide C.prog W .any base t v) →
   DataW.Whole enc C.prog fn.params.toList s.vars apart W args.toList ds gs before →
   conds.all (PathCond.test C.prog ⟨fn.params.toList,ds,s.plain.varTypes C.prog,gs⟩)=true →
   (DataW.weightsEach C.prog (fn.params.toList++s.plain.varTypes C.prog) (ds++gs)).all (·≤reachBytes)=true→X W args →
   W.ShapedOpen C.prog →
   a.holds C.prog (lone (Frame.enter C.prog f args .normal) [] W) →
   Calls C.prog f args W fun e W'=>∃ v,e = .returned v∧s.post enc C.prog fn apart fresh handsOn again W args v W') :
  ReturnsInHanded a C os f .any (fun w args=>(s.pre enc C.prog fn conds apart w args∧X w args)∧sizedMet enc C.prog fn (OpenSpec.ofChange s) apart w args) (s.post enc C.prog fn apart fresh handsOn again):=by
 refine returnsInHanded_of_calls own started noInit witness ?_
 intro w tape i _ hsh _ hok hpre hholds
 obtain ⟨_,_,_,fn',hfn',_,_,_,_,hval⟩:=hok
 have e:fn'=fn:=Option.some.inj (hfn'.symm.trans hfn)
 subst e
 obtain ⟨⟨⟨ds,gs,before,hw,hc⟩,hx⟩,hz⟩:=hpre
 have hw':=DataW.Whole.of_heap (w':=w.forCall tape i) (by rfl) hw
 refine (contract (w.forCall tape i) w.heap.size i.args ds gs before hval hw' hc (hz.weights hw) (hX _ _ _ (by rfl) hx) hsh hholds).mono fun e W' ⟨v,he,hp⟩=>?_
 subst he
 exact ChangeSpec.post_blind hp
end Go.Proofs.YtbijamcoibonkaaDoor
