/-
 Reading programs: need, keywords, names.
-/
import Derived.Test.YtbijamcoibonkaaDoorCB14
import Derived.Test.YtbijamcoibonkaaDoorCB7
import Derived.Test.YtbijamcoibonkaaDoorCB15
import Derived.Test.YtbijamcoibonkaaDoorCB8
namespace Go.Proofs.YtbijamcoibonkaaDoor
set_option linter.unusedSimpArgs false
set_option linter.unusedVariables false
open Go.RowKit Go.Shelf
attribute [local go_sem] Oper.semAt_some
structure WOk (ws:List Wd):Prop where
 ne:ws ≠ []
 len:ws.length≤65537
 each:∀ x ∈ ws,x.1 ≠ []∧x.1.length≤65537
abbrev wdV (x:Wd):Value := .agg #[.string ⟨x.1.toArray⟩,.int .i64 (x.2.1:Int),.int .i64 (x.2.2:Int)]
theorem BxL.but {t:TypeId} {b c:Nat} {cs:List Value} {w w':World} (h:BxL t c cs w) (hb:But (fun i=>i=b) w w') (hc:c ≠ b):BxL t c cs w':=h.keep (hb.block c h.lt hc)
section
variable {B b:Nat} {O:Nat→Value} {wd:Int} {pw:Option Addr} {cw inn step:Nat} {ws:List Wd} {k:Nat} {w w':World}
end
theorem WOk.pos {ws:List Wd} (h:WOk ws):0<ws.length:=List.length_pos_iff.2 h.ne
theorem But.al {F:Nat→Prop} {w w':World} (h:But F w w') (o:Obj):But F w (w'.alloc o):=h.trans (But.of_below F ((Below.refl _ _).alloc (Nat.le_refl _) o))
theorem But.setC {F:Nat→Prop} {w w':World} (h:But F w w') {c i:Nat} (v:Value) (hc:F c∨w.heap.size≤c):But F w (w'.setCell ⟨c,i,none⟩ v) :=
 ⟨h.os,h.tape,h.output,by simp only [World.size_setCell];exact h.size,fun k hk hF=>by
  rw [heap_ot (fun e=>by subst e;rcases hc with hc | hc;exact hF hc;omega)];exact h.block k hk hF⟩
theorem But.dr {F:Nat→Prop} {w w':World} (h:But F w w'):But F w w'.drew:=h.trans (But.of_below F (Below.refl _ _).drew)
theorem But.push {F:Nat→Prop} {w0 w w':World} {α:Type} {K:EK α} {B e:Nat} {v:Value} {l:List α} {o:Obj} (hb:But F w0 w) (h:GA K B e w v l) (hB:w0.heap.size≤B) (hg:(w.alloc o).grownBy w' v.ownBlock):But F w0 w':=by
 have hs:=hg.size
 rw [World.size_alloc] at hs
 refine ⟨hg.os.trans hb.os,hg.tape.trans hb.tape,hg.output.trans hb.output,Nat.le_trans hb.size (by omega),fun k hk hF=>?_⟩
 have:=hb.size
 rw [hg.block k (by rw [World.size_alloc];omega) (fun e=>by have:=(h.lt k e.symm).1;omega),heap_al,if_neg (by omega)]
 exact hb.block k hk hF
end Go.Proofs.YtbijamcoibonkaaDoor
namespace Go.Proofs.YtbijamcoibonkaaDoor
set_option linter.unusedSimpArgs false
set_option linter.unusedVariables false
open Go.RowKit Go.Shelf
theorem BxL.row {t:TypeId} {q:Nat} {cs:List Value} {w:World} (h:BxL t q cs w):RowR (fun _=>True) w (some ⟨q,0,none⟩) cs :=
 .inr ⟨q,0,rfl,trivial,fun j hj=>by rw [Nat.zero_add];exact h.at j (List.getElem?_eq_getElem hj)⟩
section
variable {P:Program} {α:Type} {K:EK α} {R:Nat→Prop} {B:Nat} {w:World} {v:Value} {l:List α} {x:α} {cs:List Value} {te:TypeId}
theorem run_pushB (t ty:TypeId) (ht:P.underlying t=some (.slice te)) (z:Value) (bytes:Nat) (hinfo:(P.info? te).map (fun i=>(i.zero,i.size,i.bytes))=some (some z,K.n,bytes)) (hzs:z.cells.size=K.n)
  (h:GR K R B te w v l) (hR:∀ k,R k→k<w.heap.size∧v.ownBlock ≠ some k) (hx:K.E R w cs x) {q:Nat} (hq:BxL te q cs w)
  (hl:(l.length+1)*bytes≤140737488355328) (h63:l.length+1≤maxLen) (hB:B≤w.heap.size) :
  ∃ v' w',(Builtin.append_ #[t,t] ty #[v,.slice (some ⟨q,0,none⟩) 1 1]).run P w = .ok v' w'∧GR K R B te w' v' (l++[x])∧w.grownBy w' v.ownBlock∧Moved w v v':=by
 obtain ⟨css,h1,h2⟩:=h
 obtain ⟨v',w',hrun,ho',hg,hv⟩:=run_appG (P:=P) w B t ty te z K.n bytes ht hinfo hzs K.pos v l.length css.flatten h2 ⟨q,0,none⟩ 1 1 cs (by rw [K.len hx];omega) hq.row (K.one hx) hl h63 hB
 have hsame:∀ k,R k→w'.heap[k]?=w.heap[k]?:=fun k hk=>by
  obtain ⟨a,b⟩:=hR k hk
  exact hg.block k a fun e=>b e.symm
 refine ⟨v',w',hrun,⟨css++[cs],(h1.keep fun k hk=>⟨hk,hsame k hk⟩).snoc (K.keep hx fun k hk=>⟨hk,hsame k hk⟩),?_⟩,hg,?_⟩
 ·rw [List.length_append,List.flatten_append];simpa using ho'
 ·rcases hv with e | e
  ·exact .inl e
  ·exact .inr ⟨_,e,Nat.le_refl _⟩
theorem wpIn_pushB {F:Fence} {n0:Nat} (hF:∀ f,F.fn f) {o:Oper} {a:Act} {KK:Act→World→Prop} {Q:Exit→Act→World→Prop} (s y:Operand) (t:TypeId)
  (ho:o.op = .call { callee := .builtin .append,args:=#[s,y],argTypes:=#[t,t] }) (ht:P.underlying t=some (.slice te)) (z:Value) (bytes:Nat) (hinfo:(P.info? te).map (fun i=>(i.zero,i.size,i.bytes))=some (some z,K.n,bytes)) (hzs:z.cells.size=K.n)
  (h:GR K R B te w v l) (hR:∀ k,R k→k<w.heap.size∧v.ownBlock ≠ some k) (hx:K.E R w cs x) {q:Nat} (hq:BxL te q cs w) (hs:a.eval s=v) (hy:a.eval y = .slice (some ⟨q,0,none⟩) 1 1)
  (hl:(l.length+1)*bytes≤140737488355328) (h63:l.length+1≤maxLen) (hB:B≤w.heap.size)
  (hK:∀ v' w',GR K R B te w' v' (l++[x])→w.grownBy w' v.ownBlock→Moved w v v'→KK (a.put o.dst v') w'):o.wpIn F n0 P a w KK Q:=by
 obtain ⟨v',w',hrun,h2,h3,h4⟩:=run_pushB (P:=P) t o.type ht z bytes hinfo hzs h hR hx hq hl h63 hB
 refine ⟨fun f _=>hF f,?_⟩
 rw [Oper.semAt_eq _ _ _ (fun c e=>by rw [ho] at e;cases e)]
 unfold execOp
 simp only [ho,resolve,invoke,builtin,Sem.run_bind,Sem.run_pure,Result.andThen_ok,List.map_toArray,List.map_cons,List.map_nil,hs,hy,hrun,Oper.uponIn]
 exact hK v' w' h2 h3 h4
end
theorem GR.own {α:Type} {K:EK α} {R:Nat→Prop} {B e:Nat} {w w':World} {v:Value} {l:List α} (h:GR K R B e w v l) (ho:∀ j,v.ownBlock=some j→w'.heap[j]?=w.heap[j]?) (hE:∀ k,R k→w'.heap[k]?=w.heap[k]?):GR K R B e w' v l:=h.keep (fun k hk=>⟨hk,hE k hk⟩) ho
section
variable {B b:Nat} {O:Nat→Value} {pw:Option Addr} {cw:Nat} {ws:List Wd} {S:PS} {k:Nat} {w w':World}
end
end Go.Proofs.YtbijamcoibonkaaDoor
namespace Go.Proofs.YtbijamcoibonkaaDoor
set_option linter.unusedSimpArgs false
set_option linter.unusedVariables false
open Go.RowKit Go.Shelf
attribute [local go_sem] Oper.semAt_some
structure SOk (S:PS):Prop where
 ch:S.p.chans.length≤32
 ar:S.p.arrays.length≤32
 fu:S.p.funcs.length≤32
 lb:S.labels.length≤1024
 st:S.sites.length≤32
 mn:S.p.main.length≤1024
 cd:∀ f ∈ S.p.funcs,f.code.length≤1024∧f.params.length≤32
theorem SOk.an {S:PS} (h:SOk S):(anamesP S.p).length≤32:=by unfold anamesP;rw [List.length_map];exact h.ar
def storeI (f:Int × Int) (had:List Bs) (r:List Wd):PE (In × List Wd):=do
 let (s,q) ← knownP f had r
 let (l,q) ← operandsP f 2 q
 pure ({ in0 with kind:=3,nm:=s,args:=l },q)
def readI (f:Int × Int) (had:List Bs) (r:List Wd):PE (In × List Wd):=do
 let (d,q) ← nameP f r
 let (s,q) ← knownP f had q
 pure ({ in0 with kind:=5,dst:=d.1,nm:=s },q)
def writeI (f:Int × Int) (had:List Bs) (r:List Wd):PE (In × List Wd):=do
 let (s,q) ← knownP f had r
 let (l,q) ← operandsP f 1 q
 pure ({ in0 with kind:=6,nm:=s,args:=l },q)
def jumpI (f:Int × Int) (r:List Wd):PE (In × List Wd):=do
 let (s,q) ← nameP f r
 pure ({ in0 with kind:=8,nm:=s.1 },q)
def branchI (f:Int × Int) (r:List Wd):PE (In × List Wd):=do
 let (l,q) ← operandsP f 1 r
 let (s,q) ← nameP f q
 pure ({ in0 with kind:=9,nm:=s.1,args:=l },q)
def retI (f:Int × Int) (inn:Nat) (r:List Wd):PE (In × List Wd):=do
 needM (decide (inn=1)) f 4
 let (l,q) ← operandsP f 1 r
 pure ({ in0 with kind:=12,args:=l },q)
def loadA (st:PS) (f:Int × Int) (dst:Bs) (q:List Wd):PE (In × List Bs × List Wd):=do
 let (s,q) ← knownP f (anamesP st.p) q
 let (l,q) ← operandsP f 1 q
 pure ({ in0 with kind:=2,dst:=dst,nm:=s,args:=l },st.sites,q)
def releaseA (st:PS) (f:Int × Int) (dst:Bs) (q:List Wd):PE (In × List Bs × List Wd):=do
 let (s,sites,q) ← siteP f st.sites q
 let (l,q) ← operandsP f 1 q
 pure ({ in0 with kind:=7,dst:=dst,nm:=s,args:=l },sites,q)
def callA (st:PS) (f:Int × Int) (dst:Bs) (q:List Wd):PE (In × List Bs × List Wd):=do
 let (w,q) ← nameP f q
 let l ← restP f 0 q
 pure ({ in0 with kind:=4,dst:=dst,nm:=w.1,args:=l },st.sites,[])
def opA (st:PS) (f:Int × Int) (dst:Bs) (o:Nat) (q:List Wd):PE (In × List Bs × List Wd):=do
 let (l,q) ← operandsP f (arityM o) q
 pure ({ in0 with kind:=1,op:=o,dst:=dst,args:=l },st.sites,q)
def copyA (st:PS) (f:Int × Int) (dst:Bs) (q:List Wd):PE (In × List Bs × List Wd):=do
 let (l,q) ← operandsP f 1 q
 pure ({ in0 with dst:=dst,args:=l },st.sites,q)
def assign2 (st:PS) (f:Int × Int) (dst:Bs) (r:List Wd) (v:Wd) (q:List Wd):PE (In × List Bs × List Wd) :=
 if v.1=kLoad then loadA st f dst q
 else if v.1=kRelease then releaseA st f dst q
 else if v.1=kCall then callA st f dst q
 else if (opB v.1 && decide (opL.idxOf v.1+2 ≠ 21))=true then opA st f dst (opL.idxOf v.1+2) q
 else copyA st f dst r
theorem assignP_eq {st:PS} {f:Int × Int} {dst:Bs} {ws r q:List Wd} {a v:Wd} (h1:nextP f ws = .ok (a,r)) (h2:a.1=[61]) (h3:nextP f r = .ok (v,q)):assignP st f dst ws=assign2 st f dst r v q:=by
 unfold assignP assign2
 rw [h1]
 simp only [bind,Except.bind,needM,h2,decide_true,if_true,h3]
 rfl
theorem assignP_e1 {st:PS} {f:Int × Int} {dst:Bs} {ws:List Wd} {g:Flt} (h1:nextP f ws = .error g):assignP st f dst ws = .error g:=by unfold assignP;rw [h1];rfl
theorem assignP_e2 {st:PS} {f:Int × Int} {dst:Bs} {ws r:List Wd} {a:Wd} (h1:nextP f ws = .ok (a,r)) (h2:¬ a.1=[61]):assignP st f dst ws = .error (wpos a,4):=by
 unfold assignP;rw [h1];simp only [bind,Except.bind,needM,decide_eq_false h2];rfl
theorem assignP_e3 {st:PS} {f:Int × Int} {dst:Bs} {ws r:List Wd} {a:Wd} {g:Flt} (h1:nextP f ws = .ok (a,r)) (h2:a.1=[61]) (h3:nextP f r = .error g):assignP st f dst ws = .error g:=by
 unfold assignP;rw [h1];simp only [bind,Except.bind,needM,h2,decide_true,if_true,h3]
theorem But.only {b c:Nat} {w w1 w2:World} (h:But (fun i=>i=b) w w1) (g:But (fun i=>i=b∨i=c) w1 w2) (hc:w.heap.size≤c:=by exact Nat.le_refl _):But (fun i=>i=b) w w2 :=
 ⟨g.os.trans h.os,g.tape.trans h.tape,g.output.trans h.output,Nat.le_trans h.size g.size,fun k hk hb=>(g.block k (Nat.lt_of_lt_of_le hk h.size) (fun e=>by rcases e with e | e;exact hb e;omega)).trans (h.block k hk hb)⟩
section
variable {P:Program} {w:World} {ops:Array Oper} {rest:List Oper} {o:Oper} {a:Act} {Q:Exit→Act→World→Prop}
end
def CPtr (b:Nat) (O:Nat→Value) (S:PS) (p:Addr):Prop:=(S.inn=1∧∃ g,(O 3).ownBlock=some g∧p=⟨g,(S.p.funcs.length - 1)*5+2,none⟩)∨(S.inn ≠ 1∧p=⟨b,4,none⟩)
def cslot (S:PS):Nat:=if S.inn=1 then 20 else 4
section
variable {B b:Nat} {O:Nat→Value} {pw:Option Addr} {cw:Nat} {ws:List Wd} {S:PS} {k:Nat} {w:World}
end
section
variable {B b:Nat} {O:Nat→Value} {pw:Option Addr} {cw:Nat} {ws:List Wd} {S:PS} {k:Nat} {w w8 w9:World} {v':Value} {x:In} {p:Addr}
end
section
variable {B b:Nat} {O:Nat→Value} {pw:Option Addr} {cw:Nat} {ws:List Wd} {S:PS} {k:Nat} {w w':World}
end
def liftI (S:PS):PE (In × List Wd)→PE (In × List Bs × List Bs × List Wd)
 | .error e => .error e
 | .ok (x,q) => .ok (x,S.labels,S.sites,q)
def liftA (S:PS):PE (In × List Bs × List Wd)→PE (In × List Bs × List Bs × List Wd)
 | .error e => .error e
 | .ok (x,st,q) => .ok (x,S.labels,st,q)
theorem instr_kStore {S:PS} {f:Int × Int} {c:Wd} {r:List Wd} (h:c.1=kStore):instrP S f c r=liftI S (storeI f (anamesP S.p) r):=by
 unfold instrP storeI;rw [if_pos h];simp only [bind,Except.bind]
 cases knownP f (anamesP S.p) r with
 | error e=>rfl
 | ok p=>dsimp only;cases operandsP f 2 p.2 <;> rfl
theorem instr_wkIn {S:PS} {f:Int × Int} {c:Wd} {r:List Wd} (h:c.1=wkIn):instrP S f c r=liftI S (readI f S.p.chans r):=by
 unfold instrP readI;rw [if_neg (by rw [h];decide),if_pos h];simp only [bind,Except.bind]
 cases nameP f r with
 | error e=>rfl
 | ok p=>dsimp only;cases knownP f S.p.chans p.2 <;> rfl
theorem instr_kOut {S:PS} {f:Int × Int} {c:Wd} {r:List Wd} (h:c.1=kOut):instrP S f c r=liftI S (writeI f S.p.chans r):=by
 unfold instrP writeI;rw [if_neg (by rw [h];decide),if_neg (by rw [h];decide),if_pos h];simp only [bind,Except.bind]
 cases knownP f S.p.chans r with
 | error e=>rfl
 | ok p=>dsimp only;cases operandsP f 1 p.2 <;> rfl
theorem instr_kJump {S:PS} {f:Int × Int} {c:Wd} {r:List Wd} (h:c.1=kJump):instrP S f c r=liftI S (jumpI f r):=by
 unfold instrP jumpI;rw [if_neg (by rw [h];decide),if_neg (by rw [h];decide),if_neg (by rw [h];decide),if_pos h];simp only [bind,Except.bind]
 cases nameP f r <;> rfl
theorem instr_kIf {S:PS} {f:Int × Int} {c:Wd} {r:List Wd} (h:c.1=kIf):instrP S f c r=liftI S (branchI f r):=by
 unfold instrP branchI;rw [if_neg (by rw [h];decide),if_neg (by rw [h];decide),if_neg (by rw [h];decide),if_neg (by rw [h];decide),if_pos h];simp only [bind,Except.bind]
 cases operandsP f 1 r with
 | error e=>rfl
 | ok p=>dsimp only;cases nameP f p.2 <;> rfl
theorem instr_kHalt {S:PS} {f:Int × Int} {c:Wd} {r:List Wd} (h:c.1=kHalt):instrP S f c r=liftI S (.ok ({ in0 with kind:=11 },r)):=by
 unfold instrP;rw [if_neg (by rw [h];decide),if_neg (by rw [h];decide),if_neg (by rw [h];decide),if_neg (by rw [h];decide),if_neg (by rw [h];decide),if_pos h];rfl
theorem instr_kRet {S:PS} {f:Int × Int} {c:Wd} {r:List Wd} (h:c.1=kRet):instrP S f c r=liftI S (retI f S.inn r):=by
 unfold instrP retI;rw [if_neg (by rw [h];decide),if_neg (by rw [h];decide),if_neg (by rw [h];decide),if_neg (by rw [h];decide),if_neg (by rw [h];decide),if_neg (by rw [h];decide),if_pos h];simp only [bind,Except.bind]
 cases needM (decide (S.inn=1)) f 4 with
 | error e=>rfl
 | ok p=>dsimp only;cases operandsP f 1 r <;> rfl
theorem instr_label {S:PS} {f:Int × Int} {c:Wd} {r:List Wd} {s:Bs} (h0:c.1 ≠ kStore) (h1:c.1 ≠ wkIn) (h2:c.1 ≠ kOut) (h3:c.1 ≠ kJump) (h4:c.1 ≠ kIf) (h5:c.1 ≠ kHalt) (h6:c.1 ≠ kRet) (hl:labelP c.1=some s):instrP S f c r=if S.labels.contains s=true then .error (wpos c,8) else .ok ({ in0 with kind:=10,nm:=s },S.labels++[s],S.sites,r):=by
 unfold instrP;rw [if_neg h0,if_neg h1,if_neg h2,if_neg h3,if_neg h4,if_neg h5,if_neg h6,hl];simp only [needM,bind,Except.bind];cases S.labels.contains s <;> rfl
theorem instr_assign {S:PS} {f:Int × Int} {c:Wd} {r:List Wd} (h0:c.1 ≠ kStore) (h1:c.1 ≠ wkIn) (h2:c.1 ≠ kOut) (h3:c.1 ≠ kJump) (h4:c.1 ≠ kIf) (h5:c.1 ≠ kHalt) (h6:c.1 ≠ kRet) (hl:labelP c.1=none):instrP S f c r=if namedB c.1=true then liftA S (assignP S f c.1 r) else .error (wpos c,4):=by
 unfold instrP;rw [if_neg h0,if_neg h1,if_neg h2,if_neg h3,if_neg h4,if_neg h5,if_neg h6,hl];simp only [needM,bind,Except.bind]
 cases namedB c.1
 ·rfl
 ·simp only [if_true];cases assignP S f c.1 r <;> rfl
end Go.Proofs.YtbijamcoibonkaaDoor
