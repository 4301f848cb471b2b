/-
 Plain lemmas on memory: how a slice reads as a list of cells, and what a step keeps. No program in sight.
-/
import Derived.WalkKit
import Derived.WalkSpells
import Derived.WalkLawsBesides
import Derived.Test.YtbijamcoibonkaaDoorRows
import Derived.ProofKit
import Derived.OpenShut
import Derived.ChangeOld
import Derived.Below
import Derived.SizedLaws
import Derived.Lib.SmallJoins
import Derived.Deep.Grids
import Derived.Maps.AppendAt
import Derived.Deep.AppendLies
import Derived.Deep.RegionLaw
namespace Go.Proofs.YtbijamcoibonkaaDoor
set_option linter.unusedSimpArgs false
set_option linter.unusedVariables false
open Go.RowKit
theorem hid {p:Prop} (h:p):Hid p:=h
theorem ret_b {a b:Bool} (h:a=b):Ending.returned (.bool a) = .returned (.bool b):=by rw [h]
theorem heap_al (w:World) (o:Obj) (k:Nat):(w.alloc o).heap[k]?=if k=w.heap.size then some o else w.heap[k]?:=by
 show (w.heap.push o)[k]?=_
 rw [Array.getElem?_push]
structure Fr (R R':Nat→Prop) (w w':World):Prop where
 os:w'.os=w.os
 tape:w'.tape=w.tape
 output:w'.output=w.output
 size:w.heap.size≤w'.heap.size
 keep:∀ k,R k→R' k∧w'.heap[k]?=w.heap[k]?
theorem Fr.refl (R:Nat→Prop) (w:World):Fr R R w w:=⟨rfl,rfl,rfl,Nat.le_refl _,fun _ h=>⟨h,rfl⟩⟩
theorem Fr.trans {R R' R'':Nat→Prop} {a b c:World} (h:Fr R R' a b) (k:Fr R' R'' b c):Fr R R'' a c :=
 ⟨k.os.trans h.os,k.tape.trans h.tape,k.output.trans h.output,Nat.le_trans h.size k.size,fun i hi=>let ⟨h1,e1⟩:=h.keep i hi;let ⟨h2,e2⟩:=k.keep i h1;⟨h2,e2.trans e1⟩⟩
theorem Fr.weaken {R R' S S':Nat→Prop} {a b:World} (h:Fr R R' a b) (h1:∀ k,S k→R k) (h2:∀ k,S k→R' k→S' k):Fr S S' a b :=
 ⟨h.os,h.tape,h.output,h.size,fun k hk=>let ⟨x,e⟩:=h.keep k (h1 k hk);⟨h2 k hk x,e⟩⟩
theorem Fr.of_below {B:Nat} {R R':Nat→Prop} {a b:World} (h:Below B a b) (h1:∀ k,R k→k<B∧R' k):Fr R R' a b :=
 ⟨h.os,h.tape,h.output,h.size,fun k hk=>⟨(h1 k hk).2,h.block k (h1 k hk).1⟩⟩
theorem Fr.below {B:Nat} {R:Nat→Prop} {a b:World} (h:Fr (·<B) R a b):Below B a b :=
 ⟨h.os,h.tape,h.output,h.size,fun k hk=>(h.keep k hk).2⟩
theorem Fr.drew {R R':Nat→Prop} {a b:World} (h:Fr R R' a b):Fr R R' a b.drew:=⟨h.os,h.tape,h.output,h.size,h.keep⟩
def RowR (R:Nat→Prop) (w:World) (p:Option Addr) (cs:List Value):Prop :=
 cs=[]∨∃ b off,p=some ⟨b,off,none⟩∧R b∧∀ j (h:j<cs.length),w.cell? ⟨b,off+j,none⟩=some cs[j]
def Sl (R:Nat→Prop) (w:World) (v:Value) (cs:List Value):Prop :=
 ∃ p c,v = .slice p cs.length c∧cs.length≤c∧c≤maxLen∧cs.length≤140737488355328∧RowR R w p cs
theorem RowR.nil {R:Nat→Prop} {w:World} {p:Option Addr}:RowR R w p [] := .inl rfl
theorem RowR.at {R:Nat→Prop} {w:World} {p:Option Addr} {cs:List Value} (h:RowR R w p cs) (k:Nat) (hk:k<cs.length) :
  ∃ b off,p=some ⟨b,off,none⟩∧R b∧(∀ j (h:j<cs.length),w.cell? ⟨b,off+j,none⟩=some cs[j]):=by
 rcases h with rfl | h
 ·simp at hk
 ·exact h
theorem RowR.keep {R R':Nat→Prop} {w w':World} {p:Option Addr} {cs:List Value} (h:RowR R w p cs) (hf:∀ k,R k→R' k∧w'.heap[k]?=w.heap[k]?):RowR R' w' p cs:=by
 rcases h with h | ⟨b,off,hp,hR,hc⟩
 ·exact .inl h
 ·obtain ⟨h1,h2⟩:=hf b hR
  exact .inr ⟨b,off,hp,h1,fun j hj=>(World.cell?_of_block (a:=⟨b,off+j,none⟩) h2).trans (hc j hj)⟩
theorem RowR.fr {R R':Nat→Prop} {w w':World} {p:Option Addr} {cs:List Value} (h:RowR R w p cs) (hf:Fr R R' w w'):RowR R' w' p cs:=h.keep hf.keep
theorem Sl.keep {R R':Nat→Prop} {w w':World} {v:Value} {cs:List Value} (h:Sl R w v cs) (hf:∀ k,R k→R' k∧w'.heap[k]?=w.heap[k]?):Sl R' w' v cs :=
 let ⟨p,c,e,h1,h2,h3,hr⟩:=h;⟨p,c,e,h1,h2,h3,hr.keep hf⟩
theorem Sl.fr {R R':Nat→Prop} {w w':World} {v:Value} {cs:List Value} (h:Sl R w v cs) (hf:Fr R R' w w'):Sl R' w' v cs:=h.keep hf.keep
theorem Sl.weaken {R R':Nat→Prop} {w:World} {v:Value} {cs:List Value} (h:Sl R w v cs) (hf:∀ k,R k→R' k):Sl R' w v cs:=h.keep fun k hk=>⟨hf k hk,rfl⟩
theorem Sl.own {R:Nat→Prop} {w:World} {v:Value} {cs:List Value} (h:Sl R w v cs):Sl (fun k=>R k∧v.ownBlock=some k) w v cs:=by
 obtain ⟨p,c,rfl,h1,h2,h3,hr⟩:=h
 refine ⟨p,c,rfl,h1,h2,h3,?_⟩
 rcases hr with hr | ⟨b,off,rfl,hR,hc⟩
 ·exact .inl hr
 ·exact .inr ⟨b,off,rfl,⟨hR,rfl⟩,hc⟩
theorem Sl.nil {R:Nat→Prop} {w:World}:Sl R w (.slice none 0 0) []:=⟨none,0,rfl,Nat.le_refl _,Nat.zero_le _,Nat.zero_le _,.inl rfl⟩
theorem Sl.len {R:Nat→Prop} {w:World} {v:Value} {cs:List Value} (h:Sl R w v cs):cs.length≤140737488355328:=by
 obtain ⟨p,c,_,h1,h2,h3,_⟩:=h;exact h3
theorem cell_lit (w:World) (xs:Array Value) (t:TypeId) (j:Nat):(w.alloc (.cells xs t)).cell? ⟨w.heap.size,j,none⟩=xs[j]? :=
 by apply World.cell?_alloc_at;rfl
theorem RowR.lit {R:Nat→Prop} (w:World) (cs:List Value) (t:TypeId) (hR:R w.heap.size):RowR R (w.alloc (.cells cs.toArray t)) (some ⟨w.heap.size,0,none⟩) cs :=
 .inr ⟨_,0,rfl,hR,fun j hj=>by rw [Nat.zero_add,cell_lit];simp [hj]⟩
theorem Sl.of_owns {R:Nat→Prop} {w:World} {base e:Nat} {v:Value} {n:Nat} {xs:List Value} (h:w.ownsRow base e 1 v n xs) (hc:n≤140737488355328) (hR:∀ k,v.ownBlock=some k→R k) :
  Sl R w v xs:=by
 obtain ⟨hl,h2⟩:=h
 obtain rfl:n=xs.length:=by omega
 rcases h2 with ⟨rfl,h0⟩ | ⟨g,cap,cur,rfl,hb,hg,hnc,hcm,hcs,ht⟩
 ·obtain rfl:=List.eq_nil_of_length_eq_zero h0
  exact Sl.nil
 ·refine ⟨_,cap,rfl,hnc,hcm,hc,.inr ⟨g,0,rfl,hR g rfl,fun j hj=>?_⟩⟩
  rw [Nat.zero_add,cell_of_row w g j cur e (0,0) hg]
  have e1:(cur.toList.take (xs.length*1))[j]?=some xs[j]:=by rw [ht];exact List.getElem?_eq_getElem hj
  rw [List.getElem?_take] at e1
  split at e1
  ·simpa using e1
  ·cases e1
def Ints (R:Nat→Prop) (w:World) (v:Value) (xs:List Int):Prop:=Sl R w v (xs.map (Value.int .i64))
def Bools (R:Nat→Prop) (w:World) (v:Value) (xs:List Bool):Prop:=Sl R w v (xs.map Value.bool)
def LL (R:Nat→Prop) (w:World) (v:Value) (ls:List (List Int)):Prop :=
 ∃ vs,Sl R w v vs∧vs.length=ls.length∧∀ i (h:i<ls.length) (h':i<vs.length),Ints R w vs[i] ls[i]
theorem Ints.op {R:Nat→Prop} {w:World} {v:Value} {xs:List Int} (h:Ints R w v xs) :
  ∃ p c,v = .slice p xs.length c∧xs.length≤c∧c≤maxLen∧xs.length≤140737488355328∧RowR R w p (xs.map (Value.int .i64)):=by
 obtain ⟨p,c,e,h1,h2,h3,hr⟩:=h
 rw [List.length_map] at e h1 h3
 exact ⟨p,c,e,h1,h2,h3,hr⟩
theorem Bools.op {R:Nat→Prop} {w:World} {v:Value} {xs:List Bool} (h:Bools R w v xs) :
  ∃ p c,v = .slice p xs.length c∧xs.length≤c∧c≤maxLen∧xs.length≤140737488355328∧RowR R w p (xs.map Value.bool):=by
 obtain ⟨p,c,e,h1,h2,h3,hr⟩:=h
 rw [List.length_map] at e h1 h3
 exact ⟨p,c,e,h1,h2,h3,hr⟩
theorem Ints.keep {R R':Nat→Prop} {w w':World} {v:Value} {xs:List Int} (h:Ints R w v xs) (hf:∀ k,R k→R' k∧w'.heap[k]?=w.heap[k]?):Ints R' w' v xs:=Sl.keep h hf
theorem Ints.fr {R R':Nat→Prop} {w w':World} {v:Value} {xs:List Int} (h:Ints R w v xs) (hf:Fr R R' w w'):Ints R' w' v xs:=Sl.keep h hf.keep
theorem Ints.weaken {R R':Nat→Prop} {w:World} {v:Value} {xs:List Int} (h:Ints R w v xs) (hf:∀ k,R k→R' k):Ints R' w v xs:=Sl.weaken h hf
theorem Bools.keep {R R':Nat→Prop} {w w':World} {v:Value} {xs:List Bool} (h:Bools R w v xs) (hf:∀ k,R k→R' k∧w'.heap[k]?=w.heap[k]?):Bools R' w' v xs:=Sl.keep h hf
theorem Bools.fr {R R':Nat→Prop} {w w':World} {v:Value} {xs:List Bool} (h:Bools R w v xs) (hf:Fr R R' w w'):Bools R' w' v xs:=Sl.keep h hf.keep
theorem Bools.weaken {R R':Nat→Prop} {w:World} {v:Value} {xs:List Bool} (h:Bools R w v xs) (hf:∀ k,R k→R' k):Bools R' w v xs:=Sl.weaken h hf
theorem LL.keep {R R':Nat→Prop} {w w':World} {v:Value} {ls:List (List Int)} (h:LL R w v ls) (hf:∀ k,R k→R' k∧w'.heap[k]?=w.heap[k]?):LL R' w' v ls :=
 let ⟨vs,h1,h2,h3⟩:=h;⟨vs,h1.keep hf,h2,fun i hi hi'=>(h3 i hi hi').keep hf⟩
theorem LL.fr {R R':Nat→Prop} {w w':World} {v:Value} {ls:List (List Int)} (h:LL R w v ls) (hf:Fr R R' w w'):LL R' w' v ls:=h.keep hf.keep
theorem LL.weaken {R R':Nat→Prop} {w:World} {v:Value} {ls:List (List Int)} (h:LL R w v ls) (hf:∀ k,R k→R' k):LL R' w v ls:=h.keep fun k hk=>⟨hf k hk,rfl⟩
end Go.Proofs.YtbijamcoibonkaaDoor
namespace Go.Proofs.YtbijamcoibonkaaDoor
set_option linter.unusedSimpArgs false
set_option linter.unusedVariables false
open Go.ChangeShapes Go.WideShapes Go.ChangeAt Go.RowKit Go.Joins
theorem cell_lt {w:World} {b o:Nat} {v:Value} (h:w.cell? ⟨b,o,none⟩=some v):b<w.heap.size:=by
 rcases Nat.lt_or_ge b w.heap.size with h1 | h1
 ·exact h1
 ·simp [World.cell?,Array.getElem?_eq_none h1] at h
section
variable {H:Type} {enc:TypeId × Value→H} {W:World}
end
end Go.Proofs.YtbijamcoibonkaaDoor
namespace Go.Proofs.YtbijamcoibonkaaDoor
set_option linter.unusedSimpArgs false
set_option linter.unusedVariables false
open Go.RowKit
section
variable {P:Program} (w:World)
end
theorem RowR.one (w:World) (u:Value) (t:TypeId):RowR (·=w.heap.size) (w.alloc (.cells #[u] t)) (some ⟨w.heap.size,0,none⟩) [u]:=RowR.lit w [u] t rfl
abbrev Bs:=List UInt8
abbrev Wd:=Bs × Nat × Nat
def flushW (n:Nat) (cur:Option (Bs × Nat)) (acc:List Wd):List Wd :=
 match cur with
 | none=>acc
 | some (t,c)=>acc++[(t,n,c)]
def grow (c:UInt8) (i:Nat) (cur:Option (Bs × Nat)):Option (Bs × Nat) :=
 match cur with
 | none=>some ([c],i+1)
 | some (t,k)=>some (t++[c],k)
def badB (c:UInt8):Bool:=decide (c<32) || decide (126<c)
def sepB (c:UInt8):Bool:=c == 32 || c == 9
def lt (n:Nat):Bs→Nat→Option (Bs × Nat)→List Wd→Except Nat (List Wd)
 | [],_,cur,acc => .ok (flushW n cur acc)
 | c :: r,i,cur,acc =>
  if c=35 then .ok (flushW n cur acc)
  else if sepB c=true then lt n r (i+1) none (flushW n cur acc)
  else if badB c=true then .error i
  else lt n r (i+1) (grow c i cur) acc
def addL (out:List (List Wd)) (ws:List Wd):List (List Wd):=if ws=[] then out else out++[ws]
def cutNL:Bs→Bs × Bs × Bool
 | []=>([],[],false)
 | c :: r=>if c=10 then ([],r,true) else (c :: (cutNL r).1,(cutNL r).2.1,(cutNL r).2.2)
theorem cutNL_len:∀ s:Bs,(cutNL s).2.2=true→(cutNL s).2.1.length<s.length
 | [],h=>by simp [cutNL] at h
 | c :: r,h=>by
  unfold cutNL at h ⊢
  split
  ·simp
  ·rename_i hc
   rw [if_neg hc] at h
   have:=cutNL_len r h
   simp only [List.length_cons];omega
def ls (n:Nat) (s:Bs) (out:List (List Wd)):Except (Nat × Nat) (List (List Wd)) :=
 match lt n (cutNL s).1 0 none [] with
 | .error i => .error (n,i+1)
 | .ok ws=>if h:(cutNL s).2.2=true then ls (n+1) (cutNL s).2.1 (addL out ws) else .ok (addL out ws)
termination_by s.length
decreasing_by exact cutNL_len s h
def tok (s:Bs):Except (Nat × Nat) (List (List Wd)):=ls 1 s []
end Go.Proofs.YtbijamcoibonkaaDoor
