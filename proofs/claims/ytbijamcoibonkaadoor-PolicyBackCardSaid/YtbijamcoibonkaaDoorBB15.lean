/-
 The table of the operators: arities and names.
-/
import Derived.Test.YtbijamcoibonkaaDoorBB6
import Derived.Test.YtbijamcoibonkaaDoorBB7
import Derived.MapKept
import Derived.IntWalk
import Derived.Laws.RangeString
import Derived.Test.YtbijamcoibonkaaDoorBB1
import Derived.Test.YtbijamcoibonkaaDoorProg
import Derived.Laws.StructEq
import Derived.Deep.QuietTactic
import Derived.BigQuiet
namespace Go.Proofs.YtbijamcoibonkaaDoor
set_option linter.unusedSimpArgs false
set_option linter.unusedVariables false
open Go.RowKit Go.Shelf
attribute [local go_sem] Oper.semAt_some
open Go.RowKit
abbrev By:=List UInt8
def sV (s:By):Value := .string ⟨s.toArray⟩
def nV (n:Nat):Value := .int .u64 (n:Int)
def Strs (R:Nat→Prop) (w:World) (v:Value) (l:List By):Prop:=Sl R w v (l.map sV)
def Nums (R:Nat→Prop) (w:World) (v:Value) (l:List Nat):Prop:=Sl R w v (l.map nV)
def NLL (R:Nat→Prop) (w:World) (v:Value) (ls:List (List Nat)):Prop :=
 ∃ vs,Sl R w v vs∧vs.length=ls.length∧∀ i (h:i<ls.length) (h':i<vs.length),Nums R w vs[i] ls[i]
theorem Strs.op {R:Nat→Prop} {w:World} {v:Value} {xs:List By} (h:Strs R w v xs) :
  ∃ p c,v = .slice p xs.length c∧xs.length≤c∧c≤maxLen∧xs.length≤140737488355328∧RowR R w p (xs.map sV):=by
 obtain ⟨p,c,e,h1,h2,h3,hr⟩:=h
 rw [List.length_map] at e h1 h3
 exact ⟨p,c,e,h1,h2,h3,hr⟩
theorem Nums.op {R:Nat→Prop} {w:World} {v:Value} {xs:List Nat} (h:Nums R w v xs) :
  ∃ p c,v = .slice p xs.length c∧xs.length≤c∧c≤maxLen∧xs.length≤140737488355328∧RowR R w p (xs.map nV):=by
 obtain ⟨p,c,e,h1,h2,h3,hr⟩:=h
 rw [List.length_map] at e h1 h3
 exact ⟨p,c,e,h1,h2,h3,hr⟩
theorem NLL.op {R:Nat→Prop} {w:World} {v:Value} {xs:List (List Nat)} (h:NLL R w v xs) :
  ∃ p c vs,v = .slice p xs.length c∧xs.length≤c∧c≤maxLen∧xs.length≤140737488355328∧RowR R w p vs∧vs.length=xs.length∧∀ i (h:i<xs.length) (h':i<vs.length),Nums R w vs[i] xs[i]:=by
 obtain ⟨vs,⟨p,c,e,h1,h2,h3,hr⟩,hl,hx⟩:=h
 exact ⟨p,c,vs,by rw [← hl];exact e,by omega,h2,by omega,hr,hl,hx⟩
theorem Strs.keep {R R':Nat→Prop} {w w':World} {v:Value} {xs:List By} (h:Strs R w v xs) (hf:∀ k,R k→R' k∧w'.heap[k]?=w.heap[k]?):Strs R' w' v xs:=Sl.keep h hf
theorem Nums.keep {R R':Nat→Prop} {w w':World} {v:Value} {xs:List Nat} (h:Nums R w v xs) (hf:∀ k,R k→R' k∧w'.heap[k]?=w.heap[k]?):Nums R' w' v xs:=Sl.keep h hf
theorem NLL.keep {R R':Nat→Prop} {w w':World} {v:Value} {xs:List (List Nat)} (h:NLL R w v xs) (hf:∀ k,R k→R' k∧w'.heap[k]?=w.heap[k]?):NLL R' w' v xs :=
 let ⟨vs,h1,h2,h3⟩:=h;⟨vs,Sl.keep h1 hf,h2,fun i hi hi'=>(h3 i hi hi').keep hf⟩
theorem Strs.drewN {R:Nat→Prop} {w:World} {v:Value} {xs:List By} (h:Strs R w v xs) (n:Nat):Strs R (w.drewN n) v xs:=h.keep fun k hk=>⟨hk,rfl⟩
theorem Nums.drewN {R:Nat→Prop} {w:World} {v:Value} {xs:List Nat} (h:Nums R w v xs) (n:Nat):Nums R (w.drewN n) v xs:=h.keep fun k hk=>⟨hk,rfl⟩
theorem NLL.drewN {R:Nat→Prop} {w:World} {v:Value} {xs:List (List Nat)} (h:NLL R w v xs) (n:Nat):NLL R (w.drewN n) v xs:=h.keep fun k hk=>⟨hk,rfl⟩
theorem Strs.below {w w':World} {v:Value} {xs:List By} (h:Strs (·<w.heap.size) w v xs) (hb:Below w.heap.size w w'):Strs (·<w'.heap.size) w' v xs:=h.keep fun k hk=>⟨Nat.lt_of_lt_of_le hk hb.size,hb.block k hk⟩
theorem Nums.below {w w':World} {v:Value} {xs:List Nat} (h:Nums (·<w.heap.size) w v xs) (hb:Below w.heap.size w w'):Nums (·<w'.heap.size) w' v xs:=h.keep fun k hk=>⟨Nat.lt_of_lt_of_le hk hb.size,hb.block k hk⟩
theorem NLL.below {w w':World} {v:Value} {xs:List (List Nat)} (h:NLL (·<w.heap.size) w v xs) (hb:Below w.heap.size w w'):NLL (·<w'.heap.size) w' v xs:=h.keep fun k hk=>⟨Nat.lt_of_lt_of_le hk hb.size,hb.block k hk⟩
theorem Strs.nil {R:Nat→Prop} {w:World}:Strs R w (.slice none 0 0) []:=Sl.nil
theorem Nums.nil {R:Nat→Prop} {w:World}:Nums R w (.slice none 0 0) []:=Sl.nil
theorem NLL.nil {R:Nat→Prop} {w:World}:NLL R w (.slice none 0 0) []:=⟨[],Sl.nil,rfl,fun i h=>absurd h (by simp)⟩
theorem take_nextL {α:Type} {a b:List α} {k:Nat} (h:a.take k=b.take k) (ha:k<a.length) (hb:k<b.length) (he:a[k]=b[k]):a.take (k+1)=b.take (k+1):=by
 rw [List.take_add_one,List.take_add_one,h,List.getElem?_eq_getElem ha,List.getElem?_eq_getElem hb,he]
theorem ne_atL {α:Type} {a b:List α} {k:Nat} (ha:k<a.length) (hb:k<b.length) (he:a[k] ≠ b[k]):a ≠ b:=by
 rintro rfl;exact he rfl
theorem eq_fullL {α:Type} {a b:List α} (h:a.take a.length=b.take a.length) (hl:a.length=b.length):a=b:=by
 rw [List.take_of_length_le (Nat.le_refl _),List.take_of_length_le (by omega)] at h;exact h
theorem str_neF {x y:By} (h:x ≠ y):(x == y)=false:=by rw [beq_eq_false_iff_ne];exact h
end Go.Proofs.YtbijamcoibonkaaDoor
