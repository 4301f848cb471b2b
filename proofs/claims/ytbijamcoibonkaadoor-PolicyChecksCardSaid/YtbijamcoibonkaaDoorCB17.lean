/-
 Reading programs: instruct.
-/
import Derived.Test.YtbijamcoibonkaaDoorCB16
import Derived.Deep.DeepCutAuto
import Derived.Test.YtbijamcoibonkaaDoorCB5
import Derived.Test.YtbijamcoibonkaaDoorCB1
import Derived.Laws.EntriesVeiled
namespace Go.Proofs.YtbijamcoibonkaaDoor
set_option linter.unusedSimpArgs false
set_option linter.unusedVariables false
open Go.RowKit Go.Shelf
attribute [local go_sem] Oper.semAt_some
theorem ins_end {S:PS} {c:Wd} {r:List Wd} (h:c.1=kEnd):instructP S c r=match endP r with | .error e => .error e | .ok _ => .ok { S with inn:=if S.inn=2 then 3 else 0 }:=by
 unfold instructP;rw [if_pos h];cases endP r <;> rfl
theorem CPtr.ne {b pb po:Nat} {O:Nat→Value} {S:PS} {w:World} (h:CPtr b O S ⟨pb,po,none⟩) (ho:Owns b O w):(O (cslot S)).ownBlock ≠ some pb:=by
 rcases h with ⟨hi,g,hg,e⟩ | ⟨hi,e⟩
 ·cases e
  rw [show cslot S=20 from if_pos hi]
  exact fun h=>ho.ne 3 20 _ (by decide) hg h
 ·cases e
  intro h;have:=(ho.lt _ b h).1;omega
theorem CPtr.ge {B b pb po:Nat} {O:Nat→Value} {S:PS} {w:World} (h:CPtr b O S ⟨pb,po,none⟩) (ho:Owns b O w) (hB:B≤b):B≤pb:=by
 rcases h with ⟨hi,g,hg,e⟩ | ⟨hi,e⟩
 ·cases e
  have:=(ho.lt 3 _ hg).1;omega
 ·cases e;exact hB
def ins2 (S:PS) (c:Wd):PE (In × List Bs × List Bs × List Wd)→PE PS
 | .error e => .error e
 | .ok (x,lb,st,q)=>match endP q with
  | .error e => .error e
  | .ok _ => .ok { S with p:=putCode S (codeP S++[{ x with pos:=wpos c }]),labels:=lb,sites:=st }
theorem ins_long {S:PS} {c:Wd} {r:List Wd} (h:c.1 ≠ kEnd) (hl:¬ (codeP S).length<1024):instructP S c r = .error (wpos c,5):=by
 unfold instructP;rw [if_neg h];simp only [needM,decide_eq_false hl];rfl
theorem ins_eq {S:PS} {c:Wd} {r:List Wd} (h:c.1 ≠ kEnd) (hl:(codeP S).length<1024):instructP S c r=ins2 S c (instrP S (wpos c) c r):=by
 unfold instructP ins2;rw [if_neg h];simp only [needM,decide_eq_true hl,if_true,bind,Except.bind]
 cases instrP S (wpos c) c r with
 | error e=>rfl
 | ok p=>dsimp only;cases endP p.2.2.2 <;> rfl
abbrev setC7 (w:World) (q:Nat) (x:In) (av:Value):World:=((((((w.setCell ⟨q,0,none⟩ (.int .u8 (x.kind:Int))).setCell ⟨q,1,none⟩ (.int .u8 (x.op:Int))).setCell ⟨q,2,none⟩ (.string ⟨x.dst.toArray⟩)).setCell ⟨q,3,none⟩ (.string ⟨x.nm.toArray⟩)).setCell ⟨q,4,none⟩ av).setCell ⟨q,5,none⟩ (.int .i64 x.pos.1)).setCell ⟨q,6,none⟩ (.int .i64 x.pos.2)
theorem But.c7 {F:Nat→Prop} {w w':World} (h:But F w w') {q:Nat} (hq:F q∨w.heap.size≤q) (x:In) (av:Value):But F w (setC7 w' q x av):=((((((h.setC _ hq).setC _ hq).setC _ hq).setC _ hq).setC _ hq).setC _ hq).setC _ hq
section
variable {B b:Nat} {O:Nat→Value} {pw:Option Addr} {cw:Nat} {ws:List Wd} {S:PS} {k:Nat} {w:World}
end
def widthD (S:PS) (f:Int × Int) (r:List Wd):PE PS:=do
 let (n,q) ← numberP f 64 r
 endP q
 pure { S with p:={ S.p with width:=(n:Int) },step:=1 }
def chanD (S:PS) (f:Int × Int) (r:List Wd):PE PS:=do
 needM (decide (S.p.chans.length<32)) f 5
 let (s,q) ← freshP f S.p.chans r
 endP q
 pure { S with p:={ S.p with chans:=S.p.chans++[s] } }
def arrayD (S:PS) (f:Int × Int) (r:List Wd):PE PS:=do
 needM (decide (S.p.arrays.length<32)) f 5
 let (s,q) ← freshP f (anamesP S.p) r
 let (n,q) ← numberP f 64 q
 endP q
 pure { S with p:={ S.p with arrays:=S.p.arrays++[⟨s,(n:Int)⟩] },step:=2 }
def funcD (S:PS) (f:Int × Int) (r:List Wd):PE PS:=do
 needM (decide (S.p.funcs.length<32)) f 5
 let (s,q) ← freshP f (S.p.funcs.map Fu.nm) r
 let l ← paramsP f [] q
 pure { S with p:={ S.p with funcs:=S.p.funcs++[⟨s,l,[],f⟩] },step:=3,inn:=1,labels:=[] }
def mainD (S:PS) (r:List Wd):PE PS:=do
 endP r
 pure { S with inn:=2,labels:=[] }
theorem declareP_eq (S:PS) (w:Wd) (r:List Wd):declareP S w r=if w.1=kWidth∧S.step=0 then widthD S (wpos w) r else if w.1=kChan∧S.step=1 then chanD S (wpos w) r else if w.1=kArray∧1≤S.step∧S.step≤2 then arrayD S (wpos w) r
  else if w.1=kFunc∧1≤S.step then funcD S (wpos w) r else if w.1=kMain∧1≤S.step then mainD S r else .error (wpos w,4):=rfl
theorem chan_long {S:PS} {f:Int × Int} {r:List Wd} (h:¬ S.p.chans.length<32):chanD S f r = .error (f,5):=by unfold chanD;simp only [needM,decide_eq_false h];rfl
theorem array_long {S:PS} {f:Int × Int} {r:List Wd} (h:¬ S.p.arrays.length<32):arrayD S f r = .error (f,5):=by unfold arrayD;simp only [needM,decide_eq_false h];rfl
theorem func_long {S:PS} {f:Int × Int} {r:List Wd} (h:¬ S.p.funcs.length<32):funcD S f r = .error (f,5):=by unfold funcD;simp only [needM,decide_eq_false h];rfl
def chan2 (S:PS):PE (Bs × List Wd)→PE PS
 | .error e => .error e
 | .ok (s,q)=>match endP q with
  | .error e => .error e
  | .ok _ => .ok { S with p:={ S.p with chans:=S.p.chans++[s] } }
theorem chan_eq {S:PS} {f:Int × Int} {r:List Wd} (h:S.p.chans.length<32):chanD S f r=chan2 S (freshP f S.p.chans r):=by
 unfold chanD chan2;simp only [needM,decide_eq_true h,if_true,bind,Except.bind]
 cases freshP f S.p.chans r with
 | error e=>rfl
 | ok p=>dsimp only;cases endP p.2 <;> rfl
def array3 (S:PS) (s:Bs):PE (Nat × List Wd)→PE PS
 | .error e => .error e
 | .ok (n,q)=>match endP q with
  | .error e => .error e
  | .ok _ => .ok { S with p:={ S.p with arrays:=S.p.arrays++[⟨s,(n:Int)⟩] },step:=2 }
theorem array_eq {S:PS} {f:Int × Int} {r:List Wd} (h:S.p.arrays.length<32):arrayD S f r=match freshP f (anamesP S.p) r with | .error e => .error e | .ok (s,q)=>array3 S s (numberP f 64 q):=by
 unfold arrayD array3;simp only [needM,decide_eq_true h,if_true,bind,Except.bind]
 cases freshP f (anamesP S.p) r with
 | error e=>rfl
 | ok p =>
  dsimp only
  cases numberP f 64 p.2 with
  | error e=>rfl
  | ok p2=>dsimp only;cases endP p2.2 <;> rfl
def func3 (S:PS) (f:Int × Int) (s:Bs):PE (List Bs)→PE PS
 | .error e => .error e
 | .ok l => .ok { S with p:={ S.p with funcs:=S.p.funcs++[⟨s,l,[],f⟩] },step:=3,inn:=1,labels:=[] }
def func2 (S:PS) (f:Int × Int):PE (Bs × List Wd)→PE PS
 | .error e => .error e
 | .ok (s,q)=>func3 S f s (paramsP f [] q)
theorem func_eq {S:PS} {f:Int × Int} {r:List Wd} (h:S.p.funcs.length<32):funcD S f r=func2 S f (freshP f (S.p.funcs.map Fu.nm) r):=by
 unfold funcD func2 func3;simp only [needM,decide_eq_true h,if_true,bind,Except.bind]
 cases freshP f (S.p.funcs.map Fu.nm) r with
 | error e=>rfl
 | ok p=>dsimp only;cases paramsP f [] p.2 <;> rfl
theorem fresh_one {f:Int × Int} {had:List Bs} {x:Wd} {r:List Wd}:freshP f had (x :: r)=match freshP f had [x] with | .error e => .error e | .ok p => .ok (p.1,r):=by
 unfold freshP nameP nextP
 simp only [bind,Except.bind,pure,Except.pure]
 cases needM (namedB x.1) (wpos x) 4 with
 | error e=>rfl
 | ok u =>
  dsimp only
  cases needM (!had.contains x.1) (wpos x) 8 <;> rfl
theorem params_long {f:Int × Int} {x:Wd} {r:List Wd} (l:List Bs) (h:¬ l.length<32):paramsP f l (x :: r) = .error (wpos x,5):=by
 rw [paramsP];simp only [needM,decide_eq_false h];rfl
theorem params_err {f:Int × Int} {x:Wd} {r:List Wd} {g:Flt} (l:List Bs) (h:l.length<32) (ho:freshP f l (x :: r) = .error g):paramsP f l (x :: r) = .error g:=by
 rw [fresh_one] at ho
 rw [paramsP];simp only [needM,decide_eq_true h,if_true,bind,Except.bind]
 cases he:freshP f l [x] with
 | error e=>rw [he] at ho;injection ho with ho;subst ho;rfl
 | ok p=>rw [he] at ho;cases ho
theorem params_ok {f:Int × Int} {x:Wd} {r q:List Wd} {s:Bs} (l:List Bs) (h:l.length<32) (ho:freshP f l (x :: r) = .ok (s,q)):paramsP f l (x :: r)=paramsP f (l++[s]) q∧q=r:=by
 rw [fresh_one] at ho
 rw [paramsP];simp only [needM,decide_eq_true h,if_true,bind,Except.bind]
 cases he:freshP f l [x] with
 | error e=>rw [he] at ho;cases ho
 | ok p=>rw [he] at ho;injection ho with ho;injection ho with h1 h2;subst h1 h2;exact ⟨rfl,rfl⟩
theorem params_end {f:Int × Int} (l:List Bs):paramsP f l [] = .ok l:=by rw [paramsP];rfl
end Go.Proofs.YtbijamcoibonkaaDoor
namespace Go.Proofs.YtbijamcoibonkaaDoor
set_option linter.unusedSimpArgs false
set_option linter.unusedVariables false
open Go.RowKit
section
variable {Fe:Fence} {n:Nat} {P:Program} {ops:Array Oper} {Q:Exit→Act→World→Prop} {md:Region.Mode} {S:World→Prop}
end
end Go.Proofs.YtbijamcoibonkaaDoor
namespace Go.Proofs.YtbijamcoibonkaaDoor
set_option linter.unusedSimpArgs false
set_option linter.unusedVariables false
open Go.RowKit Go.Shelf
attribute [local go_sem] Oper.semAt_some
theorem lineP_kons {S:PS} {x:Wd} {r:List Wd}:lineP S (x :: r)=if S.inn=0 then declareP S x r else if S.inn=3 then .error (wpos x,4) else instructP S x r:=rfl
end Go.Proofs.YtbijamcoibonkaaDoor
