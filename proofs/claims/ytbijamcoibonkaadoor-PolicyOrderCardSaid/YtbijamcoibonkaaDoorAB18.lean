/-
 Reading programs: need, keywords, names.
-/
import Derived.Test.YtbijamcoibonkaaDoorAB16
import Derived.Test.YtbijamcoibonkaaDoorAB7
import Derived.Test.YtbijamcoibonkaaDoorAB17
import Derived.Test.YtbijamcoibonkaaDoorAB8
namespace Go.Proofs.YtbijamcoibonkaaDoor
set_option linter.unusedSimpArgs false
set_option linter.unusedVariables false
open Go.RowKit Go.Shelf
attribute [local go_sem] Oper.semAt_some
structure WOk (ws:List Wd):Prop where
 ne:ws ≠ []
 len:ws.length≤65537
 each:∀ x ∈ ws,x.1 ≠ []∧x.1.length≤65537
abbrev wdV (x:Wd):Value := .agg #[.string ⟨x.1.toArray⟩,.int .i64 (x.2.1:Int),.int .i64 (x.2.2:Int)]
theorem BxL.but {t:TypeId} {b c:Nat} {cs:List Value} {w w':World} (h:BxL t c cs w) (hb:But (fun i=>i=b) w w') (hc:c ≠ b):BxL t c cs w':=h.keep (hb.block c h.lt hc)
section
variable {B b:Nat} {O:Nat→Value} {wd:Int} {pw:Option Addr} {cw inn step:Nat} {ws:List Wd} {k:Nat} {w w':World}
end
theorem WOk.pos {ws:List Wd} (h:WOk ws):0<ws.length:=List.length_pos_iff.2 h.ne
theorem But.al {F:Nat→Prop} {w w':World} (h:But F w w') (o:Obj):But F w (w'.alloc o):=h.trans (But.of_below F ((Below.refl _ _).alloc (Nat.le_refl _) o))
theorem But.setC {F:Nat→Prop} {w w':World} (h:But F w w') {c i:Nat} (v:Value) (hc:F c∨w.heap.size≤c):But F w (w'.setCell ⟨c,i,none⟩ v) :=
 ⟨h.os,h.tape,h.output,by simp only [World.size_setCell];exact h.size,fun k hk hF=>by
  rw [heap_ot (fun e=>by subst e;rcases hc with hc | hc;exact hF hc;omega)];exact h.block k hk hF⟩
theorem But.dr {F:Nat→Prop} {w w':World} (h:But F w w'):But F w w'.drew:=h.trans (But.of_below F (Below.refl _ _).drew)
theorem But.push {F:Nat→Prop} {w0 w w':World} {α:Type} {K:EK α} {B e:Nat} {v:Value} {l:List α} {o:Obj} (hb:But F w0 w) (h:GA K B e w v l) (hB:w0.heap.size≤B) (hg:(w.alloc o).grownBy w' v.ownBlock):But F w0 w':=by
 have hs:=hg.size
 rw [World.size_alloc] at hs
 refine ⟨hg.os.trans hb.os,hg.tape.trans hb.tape,hg.output.trans hb.output,Nat.le_trans hb.size (by omega),fun k hk hF=>?_⟩
 have:=hb.size
 rw [hg.block k (by rw [World.size_alloc];omega) (fun e=>by have:=(h.lt k e.symm).1;omega),heap_al,if_neg (by omega)]
 exact hb.block k hk hF
end Go.Proofs.YtbijamcoibonkaaDoor
namespace Go.Proofs.YtbijamcoibonkaaDoor
set_option linter.unusedSimpArgs false
set_option linter.unusedVariables false
open Go.RowKit Go.Shelf
theorem BxL.row {t:TypeId} {q:Nat} {cs:List Value} {w:World} (h:BxL t q cs w):RowR (fun _=>True) w (some ⟨q,0,none⟩) cs :=
 .inr ⟨q,0,rfl,trivial,fun j hj=>by rw [Nat.zero_add];exact h.at j (List.getElem?_eq_getElem hj)⟩
section
variable {P:Program} {α:Type} {K:EK α} {R:Nat→Prop} {B:Nat} {w:World} {v:Value} {l:List α} {x:α} {cs:List Value} {te:TypeId}
theorem run_pushB (t ty:TypeId) (ht:P.underlying t=some (.slice te)) (z:Value) (bytes:Nat) (hinfo:(P.info? te).map (fun i=>(i.zero,i.size,i.bytes))=some (some z,K.n,bytes)) (hzs:z.cells.size=K.n)
  (h:GR K R B te w v l) (hR:∀ k,R k→k<w.heap.size∧v.ownBlock ≠ some k) (hx:K.E R w cs x) {q:Nat} (hq:BxL te q cs w)
  (hl:(l.length+1)*bytes≤140737488355328) (h63:l.length+1≤maxLen) (hB:B≤w.heap.size) :
  ∃ v' w',(Builtin.append_ #[t,t] ty #[v,.slice (some ⟨q,0,none⟩) 1 1]).run P w = .ok v' w'∧GR K R B te w' v' (l++[x])∧w.grownBy w' v.ownBlock∧Moved w v v':=by
 obtain ⟨css,h1,h2⟩:=h
 obtain ⟨v',w',hrun,ho',hg,hv⟩:=run_appG (P:=P) w B t ty te z K.n bytes ht hinfo hzs K.pos v l.length css.flatten h2 ⟨q,0,none⟩ 1 1 cs (by rw [K.len hx];omega) hq.row (K.one hx) hl h63 hB
 have hsame:∀ k,R k→w'.heap[k]?=w.heap[k]?:=fun k hk=>by
  obtain ⟨a,b⟩:=hR k hk
  exact hg.block k a fun e=>b e.symm
 refine ⟨v',w',hrun,⟨css++[cs],(h1.keep fun k hk=>⟨hk,hsame k hk⟩).snoc (K.keep hx fun k hk=>⟨hk,hsame k hk⟩),?_⟩,hg,?_⟩
 ·rw [List.length_append,List.flatten_append];simpa using ho'
 ·rcases hv with e | e
  ·exact .inl e
  ·exact .inr ⟨_,e,Nat.le_refl _⟩
theorem wpIn_pushB {F:Fence} {n0:Nat} (hF:∀ f,F.fn f) {o:Oper} {a:Act} {KK:Act→World→Prop} {Q:Exit→Act→World→Prop} (s y:Operand) (t:TypeId)
  (ho:o.op = .call { callee := .builtin .append,args:=#[s,y],argTypes:=#[t,t] }) (ht:P.underlying t=some (.slice te)) (z:Value) (bytes:Nat) (hinfo:(P.info? te).map (fun i=>(i.zero,i.size,i.bytes))=some (some z,K.n,bytes)) (hzs:z.cells.size=K.n)
  (h:GR K R B te w v l) (hR:∀ k,R k→k<w.heap.size∧v.ownBlock ≠ some k) (hx:K.E R w cs x) {q:Nat} (hq:BxL te q cs w) (hs:a.eval s=v) (hy:a.eval y = .slice (some ⟨q,0,none⟩) 1 1)
  (hl:(l.length+1)*bytes≤140737488355328) (h63:l.length+1≤maxLen) (hB:B≤w.heap.size)
  (hK:∀ v' w',GR K R B te w' v' (l++[x])→w.grownBy w' v.ownBlock→Moved w v v'→KK (a.put o.dst v') w'):o.wpIn F n0 P a w KK Q:=by
 obtain ⟨v',w',hrun,h2,h3,h4⟩:=run_pushB (P:=P) t o.type ht z bytes hinfo hzs h hR hx hq hl h63 hB
 refine ⟨fun f _=>hF f,?_⟩
 rw [Oper.semAt_eq _ _ _ (fun c e=>by rw [ho] at e;cases e)]
 unfold execOp
 simp only [ho,resolve,invoke,builtin,Sem.run_bind,Sem.run_pure,Result.andThen_ok,List.map_toArray,List.map_cons,List.map_nil,hs,hy,hrun,Oper.uponIn]
 exact hK v' w' h2 h3 h4
end
theorem GR.own {α:Type} {K:EK α} {R:Nat→Prop} {B e:Nat} {w w':World} {v:Value} {l:List α} (h:GR K R B e w v l) (ho:∀ j,v.ownBlock=some j→w'.heap[j]?=w.heap[j]?) (hE:∀ k,R k→w'.heap[k]?=w.heap[k]?):GR K R B e w' v l:=h.keep (fun k hk=>⟨hk,hE k hk⟩) ho
section
variable {B b:Nat} {O:Nat→Value} {pw:Option Addr} {cw:Nat} {ws:List Wd} {S:PS} {k:Nat} {w w':World}
end
end Go.Proofs.YtbijamcoibonkaaDoor
namespace Go.Proofs.YtbijamcoibonkaaDoor
set_option linter.unusedSimpArgs false
set_option linter.unusedVariables false
open Go.RowKit Go.Shelf
attribute [local go_sem] Oper.semAt_some
structure SOk (S:PS):Prop where
 ch:S.p.chans.length≤32
 ar:S.p.arrays.length≤32
 fu:S.p.funcs.length≤32
 lb:S.labels.length≤1024
 st:S.sites.length≤32
 mn:S.p.main.length≤1024
 cd:∀ f ∈ S.p.funcs,f.code.length≤1024∧f.params.length≤32
theorem SOk.an {S:PS} (h:SOk S):(anamesP S.p).length≤32:=by unfold anamesP;rw [List.length_map];exact h.ar
def storeI (f:Int × Int) (had:List Bs) (r:List Wd):PE (In × List Wd):=do
 let (s,q) ← knownP f had r
 let (l,q) ← operandsP f 2 q
 pure ({ in0 with kind:=3,nm:=s,args:=l },q)
def readI (f:Int × Int) (had:List Bs) (r:List Wd):PE (In × List Wd):=do
 let (d,q) ← nameP f r
 let (s,q) ← knownP f had q
 pure ({ in0 with kind:=5,dst:=d.1,nm:=s },q)
def writeI (f:Int × Int) (had:List Bs) (r:List Wd):PE (In × List Wd):=do
 let (s,q) ← knownP f had r
 let (l,q) ← operandsP f 1 q
 pure ({ in0 with kind:=6,nm:=s,args:=l },q)
def jumpI (f:Int × Int) (r:List Wd):PE (In × List Wd):=do
 let (s,q) ← nameP f r
 pure ({ in0 with kind:=8,nm:=s.1 },q)
def branchI (f:Int × Int) (r:List Wd):PE (In × List Wd):=do
 let (l,q) ← operandsP f 1 r
 let (s,q) ← nameP f q
 pure ({ in0 with kind:=9,nm:=s.1,args:=l },q)
def retI (f:Int × Int) (inn:Nat) (r:List Wd):PE (In × List Wd):=do
 needM (decide (inn=1)) f 4
 let (l,q) ← operandsP f 1 r
 pure ({ in0 with kind:=12,args:=l },q)
end Go.Proofs.YtbijamcoibonkaaDoor
