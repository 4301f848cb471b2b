/-
 Names of programs: the laid lists; prog.named.
-/
import Derived.Test.YtbijamcoibonkaaDoorBB15
import Derived.Test.YtbijamcoibonkaaDoorBSPrM
import Derived.Test.YtbijamcoibonkaaDoorBSShelf
import Derived.Lib.LaidTab
import Derived.MapKept
import Derived.ChangeMaps
import Derived.Maps.OwnSet
import Derived.Test.YtbijamcoibonkaaDoorBSReg
namespace Go.Proofs.YtbijamcoibonkaaDoor
set_option linter.unusedSimpArgs false
set_option linter.unusedVariables false
open Go.RowKit Go.Shelf
attribute [local go_sem] Oper.semAt_some
theorem cell_size {w:World} {b i:Nat} {v:Value} (h:w.cell? ⟨b,i,none⟩=some v):b<w.heap.size:=by
 rcases Nat.lt_or_ge b w.heap.size with h1 | h1
 ·exact h1
 ·simp [World.cell?,Array.getElem?_eq_none h1] at h
theorem tab_below {B:Nat} {w w':World} (hb:Below B w w') (hB:w.heap.size≤B) {name:String} {k:IntKind} {zs:List Int} (h:Lib.TabIs Tryd.prog w name k zs):Lib.TabIs Tryd.prog w' name k zs:=by
 unfold Lib.TabIs World.var? at *
 cases hg:Tryd.prog.globalNamed name with
 | none=>simp [hg] at h
 | some g =>
  simp only [hg,Option.bind_some] at h ⊢
  have hlt:g<w.heap.size:=by
   rcases Nat.lt_or_ge g w.heap.size with h' | h'
   ·exact h'
   ·rw [Array.getElem?_eq_none h'] at h;simp at h
  rw [hb.block g (by omega)]
  exact h
theorem containsS_eq (l:List Bs) (s:Bs):Lib.containsS (l.map fun x=>(⟨x.toArray⟩:ByteArray)) ⟨s.toArray⟩=l.contains s:=by
 rw [Bool.eq_iff_iff,Lib.containsS_iff,List.contains_iff_mem,List.mem_map]
 constructor
 ·rintro ⟨x,hx,e⟩
  have:=congrArg (fun b:ByteArray=>b.data.toList) e
  exact (show x=s from this) ▸ hx
 ·exact fun h=>⟨s,h,rfl⟩
theorem contains_any (l:List Bs) (s:Bs) (v:Value) (R:Nat→Prop) (w:World) (h:SlG kStr R w v l):Calls Tryd.prog 20 #[v,.string ⟨s.toArray⟩] w fun e w'=>e = .returned (.bool (l.contains s))∧w'=w:=by
 obtain ⟨p,c,rfl⟩:=h.slc
 cases l with
 | nil=>exact (Tryd.slices_Contains_string_empty p c ⟨s.toArray⟩ w).mono fun e w' ⟨h1,h2⟩=>⟨h1,h2⟩
 | cons x r =>
  obtain ⟨b,off,rfl,hR,hc⟩:=str_at h (by simp)
  have hl:=h.len
  refine (Tryd.slices_Contains_string b off (x :: r).length c ((x :: r).map fun x=>(⟨x.toArray⟩:ByteArray)) ⟨s.toArray⟩ w (by simp) (by omega) fun j hj=>?_).mono fun e w' ⟨h1,h2⟩=>⟨?_,h2⟩
  ·have hj':j<(x :: r).length:=by simpa using hj
   rw [hc j hj',List.getD_eq_getElem?_getD,List.getElem?_map,List.getElem?_eq_getElem hj']
   rfl
  ·rw [h1,List.take_of_length_le (by simp),containsS_eq]
set_option maxRecDepth 100000 in
set_option maxHeartbeats 2000000 in
theorem name_long (s:Bs) (w:World) (hs:32<s.length):Calls Tryd.prog 19 #[.string ⟨s.toArray⟩] w fun e w'=>e = .returned (.bool (nameB s))∧Below w.heap.size w w':=by
 obtain ⟨sb,hsb⟩:∃ sb:ByteArray,(⟨s.toArray⟩:ByteArray)=sb:=⟨_,rfl⟩
 have hsz:sb.size=s.length:=by rw [← hsb];exact size_mk s
 have hnm:nameB s=false:=by unfold nameB;rw [decide_eq_false (by omega:¬ s.length≤32)];simp
 rw [hsb,hnm]
 have hem:=empty_of sb
 rw [show decide (sb.size=0)=false from decide_eq_false (by omega)] at hem
 have a0:decide (32<(sb.size:Int))=true:=by simp;omega
 clear hsb hnm hsz hs
 go_enter Tryd.func19,Tryd.ntmps19
 go_wp2
 go_ret
 exact ⟨rfl,Below.refl _ _⟩
theorem name_all (s:Bs) (w:World):Calls Tryd.prog 19 #[.string ⟨s.toArray⟩] w fun e w'=>e = .returned (.bool (nameB s))∧Below w.heap.size w w':=by
 by_cases h:32<s.length
 ·exact name_long s w h
 ·exact name_any s w (by omega)
end Go.Proofs.YtbijamcoibonkaaDoor
namespace Go.Proofs.YtbijamcoibonkaaDoor
set_option linter.unusedSimpArgs false
set_option linter.unusedVariables false
open Go.RowKit Go.Shelf
abbrev Ent:=Bs × Value
def EntR (l:List MapEntry) (d:List Ent):Prop:=l.map (fun x=>(x.key,x.val))=d.map fun p=>(Value.string ⟨p.1.toArray⟩,p.2)
def MapS (w:World) (r:Nat) (d:List Ent):Prop:=∃ es clk,w.heap[r]?=some (.map es clk)∧EntR es.toList d
theorem MapS.keep {w w':World} {r:Nat} {d:List Ent} (h:MapS w r d) (hk:w'.heap[r]?=w.heap[r]?):MapS w' r d:=let ⟨es,clk,h1,h2⟩:=h;⟨es,clk,hk.trans h1,h2⟩
theorem MapS.lt {w:World} {r:Nat} {d:List Ent} (h:MapS w r d):r<w.heap.size:=by
 obtain ⟨es,clk,h1,_⟩:=h
 exact (Array.getElem?_eq_some_iff.1 h1).1
theorem EntR.nil:EntR [] []:=rfl
theorem EntR.cons {x:MapEntry} {l:List MapEntry} {d:List Ent} (h:EntR (x :: l) d):∃ p d',d=p :: d'∧x.key = .string ⟨p.1.toArray⟩∧x.val=p.2∧EntR l d':=by
 unfold EntR at h
 cases d with
 | nil=>simp at h
 | cons p d' =>
  simp only [List.map_cons,List.cons.injEq,Prod.mk.injEq] at h
  exact ⟨p,d',rfl,h.1.1,h.1.2,h.2⟩
section
variable {P:Program} {w:World} {ops:Array Oper} {rest:List Oper} {o:Oper} {a:Act} {Q:Exit→Act→World→Prop}
end
def nmE (l:List Bs):List Ent:=l.map fun s=>(s,.bool true)
def NmS (w:World) (r:Nat) (l:List Bs):Prop:=MapS w r (nmE l)
theorem NmS.keep {w w':World} {r:Nat} {l:List Bs} (h:NmS w r l) (hk:w'.heap[r]?=w.heap[r]?):NmS w' r l:=MapS.keep h hk
theorem NmS.lt {w:World} {r:Nat} {l:List Bs} (h:NmS w r l):r<w.heap.size:=MapS.lt h
def ctE (d:List (Bs × Nat)):List Ent:=d.map fun p=>(p.1,.int .i64 (p.2:Int))
def CtS (w:World) (r:Nat) (d:List (Bs × Nat)):Prop:=MapS w r (ctE d)
theorem CtS.keep {w w':World} {r:Nat} {d:List (Bs × Nat)} (h:CtS w r d) (hk:w'.heap[r]?=w.heap[r]?):CtS w' r d:=MapS.keep h hk
theorem CtS.lt {w:World} {r:Nat} {d:List (Bs × Nat)} (h:CtS w r d):r<w.heap.size:=MapS.lt h
open Go.RowKit
theorem put_defers (a:Act) (d:Option Nat) (v:Value):(a.put d v).defers=a.defers:=by cases d <;> rfl
end Go.Proofs.YtbijamcoibonkaaDoor
namespace Go.Proofs.YtbijamcoibonkaaDoor
set_option linter.unusedSimpArgs false
set_option linter.unusedVariables false
open Go.RowKit Go.Shelf
attribute [local go_sem] Oper.semAt_some
abbrev posV (p:Int × Int):Value := .agg #[.int .i64 p.1,.int .i64 p.2]
structure But (F:Nat→Prop) (w w':World):Prop where
 os:w'.os=w.os
 tape:w'.tape=w.tape
 output:w'.output=w.output
 size:w.heap.size≤w'.heap.size
 block:∀ k,k<w.heap.size→¬ F k→w'.heap[k]?=w.heap[k]?
theorem But.refl (F:Nat→Prop) (w:World):But F w w:=⟨rfl,rfl,rfl,Nat.le_refl _,fun _ _ _=>rfl⟩
theorem But.of_below {w w':World} (F:Nat→Prop) (h:Below w.heap.size w w'):But F w w':=⟨h.os,h.tape,h.output,h.size,fun k hk _=>h.block k hk⟩
theorem But.trans {F:Nat→Prop} {a b c:World} (h:But F a b) (k:But F b c):But F a c :=
 ⟨k.os.trans h.os,k.tape.trans h.tape,k.output.trans h.output,Nat.le_trans h.size k.size,fun i hi hF=>(k.block i (Nat.lt_of_lt_of_le hi h.size) hF).trans (h.block i hi hF)⟩
theorem But.below {F:Nat→Prop} {w w':World} {B:Nat} (h:But F w w') (hB:B≤w.heap.size) (hF:∀ k,F k→B≤k):Below B w w' :=
 ⟨h.os,h.tape,h.output,h.size,fun k hk=>h.block k (by omega) fun hf=>by have:=hF k hf;omega⟩
theorem But.mono {F G:Nat→Prop} {w w':World} (h:But F w w') (hFG:∀ k,F k→G k):But G w w':=⟨h.os,h.tape,h.output,h.size,fun k hk hg=>h.block k hk fun hf=>hg (hFG k hf)⟩
theorem But.of_grown {w w':World} {r:Nat} (h:w.grownBy w' (some r)):But (fun k=>k=r) w w':=⟨h.os,h.tape,h.output,h.size,fun k hk hF=>h.block k hk fun e=>by cases e;exact hF rfl⟩
end Go.Proofs.YtbijamcoibonkaaDoor
