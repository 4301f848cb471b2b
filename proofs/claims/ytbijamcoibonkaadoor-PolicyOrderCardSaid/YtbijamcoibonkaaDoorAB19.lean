/-
 Reading programs: a line that gives a variable something.
-/
import Derived.Test.YtbijamcoibonkaaDoorAB18
namespace Go.Proofs.YtbijamcoibonkaaDoor
set_option linter.unusedSimpArgs false
set_option linter.unusedVariables false
open Go.RowKit Go.Shelf
attribute [local go_sem] Oper.semAt_some
def loadA (st:PS) (f:Int × Int) (dst:Bs) (q:List Wd):PE (In × List Bs × List Wd):=do
 let (s,q) ← knownP f (anamesP st.p) q
 let (l,q) ← operandsP f 1 q
 pure ({ in0 with kind:=2,dst:=dst,nm:=s,args:=l },st.sites,q)
def releaseA (st:PS) (f:Int × Int) (dst:Bs) (q:List Wd):PE (In × List Bs × List Wd):=do
 let (s,sites,q) ← siteP f st.sites q
 let (l,q) ← operandsP f 1 q
 pure ({ in0 with kind:=7,dst:=dst,nm:=s,args:=l },sites,q)
def callA (st:PS) (f:Int × Int) (dst:Bs) (q:List Wd):PE (In × List Bs × List Wd):=do
 let (w,q) ← nameP f q
 let l ← restP f 0 q
 pure ({ in0 with kind:=4,dst:=dst,nm:=w.1,args:=l },st.sites,[])
def opA (st:PS) (f:Int × Int) (dst:Bs) (o:Nat) (q:List Wd):PE (In × List Bs × List Wd):=do
 let (l,q) ← operandsP f (arityM o) q
 pure ({ in0 with kind:=1,op:=o,dst:=dst,args:=l },st.sites,q)
def copyA (st:PS) (f:Int × Int) (dst:Bs) (q:List Wd):PE (In × List Bs × List Wd):=do
 let (l,q) ← operandsP f 1 q
 pure ({ in0 with dst:=dst,args:=l },st.sites,q)
def assign2 (st:PS) (f:Int × Int) (dst:Bs) (r:List Wd) (v:Wd) (q:List Wd):PE (In × List Bs × List Wd) :=
 if v.1=kLoad then loadA st f dst q
 else if v.1=kRelease then releaseA st f dst q
 else if v.1=kCall then callA st f dst q
 else if (opB v.1 && decide (opL.idxOf v.1+2 ≠ 21))=true then opA st f dst (opL.idxOf v.1+2) q
 else copyA st f dst r
theorem assignP_eq {st:PS} {f:Int × Int} {dst:Bs} {ws r q:List Wd} {a v:Wd} (h1:nextP f ws = .ok (a,r)) (h2:a.1=[61]) (h3:nextP f r = .ok (v,q)):assignP st f dst ws=assign2 st f dst r v q:=by
 unfold assignP assign2
 rw [h1]
 simp only [bind,Except.bind,needM,h2,decide_true,if_true,h3]
 rfl
theorem assignP_e1 {st:PS} {f:Int × Int} {dst:Bs} {ws:List Wd} {g:Flt} (h1:nextP f ws = .error g):assignP st f dst ws = .error g:=by unfold assignP;rw [h1];rfl
theorem assignP_e2 {st:PS} {f:Int × Int} {dst:Bs} {ws r:List Wd} {a:Wd} (h1:nextP f ws = .ok (a,r)) (h2:¬ a.1=[61]):assignP st f dst ws = .error (wpos a,4):=by
 unfold assignP;rw [h1];simp only [bind,Except.bind,needM,decide_eq_false h2];rfl
theorem assignP_e3 {st:PS} {f:Int × Int} {dst:Bs} {ws r:List Wd} {a:Wd} {g:Flt} (h1:nextP f ws = .ok (a,r)) (h2:a.1=[61]) (h3:nextP f r = .error g):assignP st f dst ws = .error g:=by
 unfold assignP;rw [h1];simp only [bind,Except.bind,needM,h2,decide_true,if_true,h3]
theorem But.only {b c:Nat} {w w1 w2:World} (h:But (fun i=>i=b) w w1) (g:But (fun i=>i=b∨i=c) w1 w2) (hc:w.heap.size≤c:=by exact Nat.le_refl _):But (fun i=>i=b) w w2 :=
 ⟨g.os.trans h.os,g.tape.trans h.tape,g.output.trans h.output,Nat.le_trans h.size g.size,fun k hk hb=>(g.block k (Nat.lt_of_lt_of_le hk h.size) (fun e=>by rcases e with e | e;exact hb e;omega)).trans (h.block k hk hb)⟩
section
variable {P:Program} {w:World} {ops:Array Oper} {rest:List Oper} {o:Oper} {a:Act} {Q:Exit→Act→World→Prop}
end
def CPtr (b:Nat) (O:Nat→Value) (S:PS) (p:Addr):Prop:=(S.inn=1∧∃ g,(O 3).ownBlock=some g∧p=⟨g,(S.p.funcs.length - 1)*5+2,none⟩)∨(S.inn ≠ 1∧p=⟨b,4,none⟩)
def cslot (S:PS):Nat:=if S.inn=1 then 20 else 4
section
variable {B b:Nat} {O:Nat→Value} {pw:Option Addr} {cw:Nat} {ws:List Wd} {S:PS} {k:Nat} {w:World}
end
section
variable {B b:Nat} {O:Nat→Value} {pw:Option Addr} {cw:Nat} {ws:List Wd} {S:PS} {k:Nat} {w w8 w9:World} {v':Value} {x:In} {p:Addr}
end
section
variable {B b:Nat} {O:Nat→Value} {pw:Option Addr} {cw:Nat} {ws:List Wd} {S:PS} {k:Nat} {w w':World}
end
def liftI (S:PS):PE (In × List Wd)→PE (In × List Bs × List Bs × List Wd)
 | .error e => .error e
 | .ok (x,q) => .ok (x,S.labels,S.sites,q)
def liftA (S:PS):PE (In × List Bs × List Wd)→PE (In × List Bs × List Bs × List Wd)
 | .error e => .error e
 | .ok (x,st,q) => .ok (x,S.labels,st,q)
theorem instr_kStore {S:PS} {f:Int × Int} {c:Wd} {r:List Wd} (h:c.1=kStore):instrP S f c r=liftI S (storeI f (anamesP S.p) r):=by
 unfold instrP storeI;rw [if_pos h];simp only [bind,Except.bind]
 cases knownP f (anamesP S.p) r with
 | error e=>rfl
 | ok p=>dsimp only;cases operandsP f 2 p.2 <;> rfl
theorem instr_wkIn {S:PS} {f:Int × Int} {c:Wd} {r:List Wd} (h:c.1=wkIn):instrP S f c r=liftI S (readI f S.p.chans r):=by
 unfold instrP readI;rw [if_neg (by rw [h];decide),if_pos h];simp only [bind,Except.bind]
 cases nameP f r with
 | error e=>rfl
 | ok p=>dsimp only;cases knownP f S.p.chans p.2 <;> rfl
theorem instr_kOut {S:PS} {f:Int × Int} {c:Wd} {r:List Wd} (h:c.1=kOut):instrP S f c r=liftI S (writeI f S.p.chans r):=by
 unfold instrP writeI;rw [if_neg (by rw [h];decide),if_neg (by rw [h];decide),if_pos h];simp only [bind,Except.bind]
 cases knownP f S.p.chans r with
 | error e=>rfl
 | ok p=>dsimp only;cases operandsP f 1 p.2 <;> rfl
theorem instr_kJump {S:PS} {f:Int × Int} {c:Wd} {r:List Wd} (h:c.1=kJump):instrP S f c r=liftI S (jumpI f r):=by
 unfold instrP jumpI;rw [if_neg (by rw [h];decide),if_neg (by rw [h];decide),if_neg (by rw [h];decide),if_pos h];simp only [bind,Except.bind]
 cases nameP f r <;> rfl
theorem instr_kIf {S:PS} {f:Int × Int} {c:Wd} {r:List Wd} (h:c.1=kIf):instrP S f c r=liftI S (branchI f r):=by
 unfold instrP branchI;rw [if_neg (by rw [h];decide),if_neg (by rw [h];decide),if_neg (by rw [h];decide),if_neg (by rw [h];decide),if_pos h];simp only [bind,Except.bind]
 cases operandsP f 1 r with
 | error e=>rfl
 | ok p=>dsimp only;cases nameP f p.2 <;> rfl
theorem instr_kHalt {S:PS} {f:Int × Int} {c:Wd} {r:List Wd} (h:c.1=kHalt):instrP S f c r=liftI S (.ok ({ in0 with kind:=11 },r)):=by
 unfold instrP;rw [if_neg (by rw [h];decide),if_neg (by rw [h];decide),if_neg (by rw [h];decide),if_neg (by rw [h];decide),if_neg (by rw [h];decide),if_pos h];rfl
theorem instr_kRet {S:PS} {f:Int × Int} {c:Wd} {r:List Wd} (h:c.1=kRet):instrP S f c r=liftI S (retI f S.inn r):=by
 unfold instrP retI;rw [if_neg (by rw [h];decide),if_neg (by rw [h];decide),if_neg (by rw [h];decide),if_neg (by rw [h];decide),if_neg (by rw [h];decide),if_neg (by rw [h];decide),if_pos h];simp only [bind,Except.bind]
 cases needM (decide (S.inn=1)) f 4 with
 | error e=>rfl
 | ok p=>dsimp only;cases operandsP f 1 r <;> rfl
theorem instr_label {S:PS} {f:Int × Int} {c:Wd} {r:List Wd} {s:Bs} (h0:c.1 ≠ kStore) (h1:c.1 ≠ wkIn) (h2:c.1 ≠ kOut) (h3:c.1 ≠ kJump) (h4:c.1 ≠ kIf) (h5:c.1 ≠ kHalt) (h6:c.1 ≠ kRet) (hl:labelP c.1=some s):instrP S f c r=if S.labels.contains s=true then .error (wpos c,8) else .ok ({ in0 with kind:=10,nm:=s },S.labels++[s],S.sites,r):=by
 unfold instrP;rw [if_neg h0,if_neg h1,if_neg h2,if_neg h3,if_neg h4,if_neg h5,if_neg h6,hl];simp only [needM,bind,Except.bind];cases S.labels.contains s <;> rfl
theorem instr_assign {S:PS} {f:Int × Int} {c:Wd} {r:List Wd} (h0:c.1 ≠ kStore) (h1:c.1 ≠ wkIn) (h2:c.1 ≠ kOut) (h3:c.1 ≠ kJump) (h4:c.1 ≠ kIf) (h5:c.1 ≠ kHalt) (h6:c.1 ≠ kRet) (hl:labelP c.1=none):instrP S f c r=if namedB c.1=true then liftA S (assignP S f c.1 r) else .error (wpos c,4):=by
 unfold instrP;rw [if_neg h0,if_neg h1,if_neg h2,if_neg h3,if_neg h4,if_neg h5,if_neg h6,hl];simp only [needM,bind,Except.bind]
 cases namedB c.1
 ·rfl
 ·simp only [if_true];cases assignP S f c.1 r <;> rfl
end Go.Proofs.YtbijamcoibonkaaDoor
