/-
 A part.
-/
import Derived.Test.YtoofbgoeipijcaaGreatDoorVB7
import Derived.Lib.LaidTab
import Derived.ChangeMaps
import Derived.Maps.OwnSet
namespace Go.Proofs.YtoofbgoeipijcaaGreatDoor
set_option maxRecDepth 100000
set_option maxHeartbeats 2000000
set_option linter.all false
open Go.RowKit Go.Shelf
attribute [local go_sem] Oper.semAt_some
theorem cell_size {w:World} {b i:Nat} {v:Value} (h:w.cell? ⟨b,i,none⟩=some v):b<w.heap.size:=by
 rcases Nat.lt_or_ge b w.heap.size with h1 | h1
 ·exact h1
 ·simp [World.cell?,Array.getElem?_eq_none h1] at h
theorem tab_below {B:Nat} {w w':World} (hb:Below B w w') (hB:w.heap.size<=B) {name:String} {k:IntKind} {zs:List Int} (h:Lib.TabIs Tryz.prog w name k zs):Lib.TabIs Tryz.prog w' name k zs:=by
 unfold Lib.TabIs World.var? at *
 cases hg:Tryz.prog.globalNamed name with
 | none=>simp [hg] at h
 | some g =>
  simp only [hg,Option.bind_some] at h ⊢
  have hlt:g<w.heap.size:=by
   rcases Nat.lt_or_ge g w.heap.size with h' | h'
   ·exact h'
   ·rw [Array.getElem?_eq_none h'] at h;simp at h
  rw [hb.block g (by omega)]
  exact h
structure PrE0 (w:World):Prop where
 kw:∃ b off c,w.cell? ⟨3,0,none⟩=some (.slice (some ⟨b,off,none⟩) 16 c)/\∀ j,j<16->w.cell? ⟨b,off+j,none⟩=some (.string ⟨(kwL.getD j []).toArray⟩)
 form:∀ k,k<13->w.cell? ⟨4,3*k,none⟩=some (.bool (fieldsL.getD k (false,false,0)).1)/\w.cell? ⟨4,3*k+1,none⟩=some (.bool (fieldsL.getD k (false,false,0)).2.1)/\w.cell? ⟨4,3*k+2,none⟩=some (.int .i64 (fieldsL.getD k (false,false,0)).2.2)
theorem PrE0.below {w w':World} (h:PrE0 w) (hb:Below w.heap.size w w'):PrE0 w':=by
 obtain ⟨⟨b,off,c,h1,h2⟩,h3⟩:=h
 refine ⟨⟨b,off,c,cB hb h1,fun j hj=>(hb.cell (p:=⟨_,_,none⟩) (cell_size (h2 j hj))).trans (h2 j hj)⟩,fun k hk=>?_⟩
 obtain ⟨a1,a2,a3⟩:=h3 k hk
 exact ⟨cB hb a1,cB hb a2,cB hb a3⟩
structure PrE (w:World):Prop extends PrE0 w where
 pow:Lib.TabIs Tryz.prog w "internal/strconv.uint64pow10" .u64 Lib.pow10Tab
theorem PrE.below {w w':World} (h:PrE w) (hb:Below w.heap.size w w'):PrE w':=⟨h.toPrE0.below hb,tab_below hb lrf h.pow⟩
theorem containsS_eq (l:List Bs) (s:Bs):Lib.containsS (l.map fun x=>(⟨x.toArray⟩:ByteArray)) ⟨s.toArray⟩=l.contains s:=by
 rw [Bool.eq_iff_iff,Lib.containsS_iff,List.contains_iff_mem,List.mem_map]
 constructor
 ·rintro ⟨x,hx,e⟩
  have:=congrArg (fun b:ByteArray=>b.data.toList) e
  exact (show x=s from this) ▸ hx
 ·exact fun h=>⟨s,h,rfl⟩
theorem name_long (s:Bs) (w:World) (hs:32<s.length):Calls Tryz.prog 193 #[.string ⟨s.toArray⟩] w fun e w'=>e=.returned (.bool (nameB s))/\Below w.heap.size w w':=by
 obtain ⟨sb,hsb⟩:∃ sb:ByteArray,(⟨s.toArray⟩:ByteArray)=sb:=⟨_,rfl⟩
 have hsz:sb.size=s.length:=by rw [<- hsb];exact size_mk s
 have hnm:nameB s=false:=by unfold nameB;rw [decide_eq_false (by omega:¬ s.length<=32)];simp
 rw [hsb,hnm]
 have hem:=empty_of sb
 rw [show decide (sb.size=0)=false from decide_eq_false (by omega)] at hem
 have a0:decide (32<(sb.size:Int))=true:=by simp;omega
 clear hsb hnm hsz hs
 go_enter Tryz.func193,Tryz.ntmps193
 go_wp2
 go_ret
 exact ⟨rfl,Below.refl _ _⟩
theorem name_all (s:Bs) (w:World):Calls Tryz.prog 193 #[.string ⟨s.toArray⟩] w fun e w'=>e=.returned (.bool (nameB s))/\Below w.heap.size w w':=by
 by_cases h:32<s.length
 ·exact name_long s w h
 ·exact name_any s w (by omega)
theorem kw_contains (s:Bs) (w:World) (hE:PrE0 w):∃ v,w.cell? ⟨3,0,none⟩=some v/\Calls Tryz.prog 150 #[v,.string ⟨s.toArray⟩] w fun e w'=>e=.returned (.bool (kwB s))/\w'=w:=by
 obtain ⟨⟨b,off,c,h1,h2⟩,_⟩:=hE
 refine ⟨_,h1,?_⟩
 refine (Tryz.slices_Contains_string b off 16 c (kwL.map fun x=>(⟨x.toArray⟩:ByteArray)) ⟨s.toArray⟩ w (by decide) (by omega) fun j hj=>?_).mono fun e w' ⟨h1,h2⟩=>⟨?_,h2⟩
 ·have hj':j<kwL.length:=by simpa using hj
  rw [h2 j hj',List.getD_eq_getElem?_getD,List.getD_eq_getElem?_getD,List.getElem?_map,List.getElem?_eq_getElem hj']
  rfl
 ·rw [h1,List.take_of_length_le (by decide),containsS_eq];rfl
theorem named_any (s:Bs) (w:World) (hE:PrE0 w):Calls Tryz.prog 155 #[.string ⟨s.toArray⟩] w fun e w'=>e=.returned (.bool (namedB s))/\Below w.heap.size w w':=by
 have HE:=hid hE
 have HOF:=hid (ofM_err s)
 clear hE
 obtain ⟨o,ho⟩:∃ o,ofM s=o:=⟨_,rfl⟩
 rw [ho] at HOF
 have HO:=hid ho
 obtain ⟨o1,o2⟩:=o
 have HNB:=hid (show namedB s=(nameB s && !opB s && !kwB s) from rfl)
 obtain ⟨bn,hbn⟩:∃ b,nameB s=b:=⟨_,rfl⟩
 obtain ⟨bo,hbo⟩:∃ b,opB s=b:=⟨_,rfl⟩
 obtain ⟨bk,hbk⟩:∃ b,kwB s=b:=⟨_,rfl⟩
 rw [hbn,hbo,hbk] at HNB
 rw [hbo] at HOF
 have HBN:=hid hbn;have HBK:=hid hbk
 have hne:=HOF.out
 simp only at hne
 clear ho hbn hbo hbk
 have HC0:=hid (fun W=>of_any s W)
 have HC1:=hid (fun W=>name_all s W)
 go_enter Tryz.func155,Tryz.ntmps155
 cases bn <;> cases bo <;> cases bk
 all_goals (
  simp only [Bool.not_true,Bool.not_false] at hne
  go_wp2_with (first
   | (go_at_call 200;refine (HC0.out _).mono ?_;rw [HO.out];rintro e w1 ⟨rfl,hb1⟩;have HB1:=hid hb1;have HE1:=hid (HE.out.below hb1);clear hb1)
   | (go_at_call 193;refine (HC1.out _).mono ?_;rw [HBN.out];rintro e w2 ⟨rfl,hb2⟩;have HB2:=hid (HB1.out.trans (hb2.mono HB1.out.size));have HE2:=hid (HE1.out.below hb2);obtain ⟨kv,hkv,hkc⟩:=kw_contains s _ HE2.out;have HK:=hid hkc;clear hb2 hkc)
   | (go_at_call 150;refine HK.out.mono ?_;rw [HBK.out];rintro e w3 ⟨rfl,rfl⟩))
  go_ret
  exact ⟨by rw [HNB.out];rfl,by first | exact HB2.out | exact HB1.out⟩)
abbrev Ent:=Bs × Value
def EntR (l:List MapEntry) (d:List Ent):Prop:=l.map (fun x=>(x.key,x.val))=d.map fun p=>(Value.string ⟨p.1.toArray⟩,p.2)
def MapS (w:World) (r:Nat) (d:List Ent):Prop:=∃ es clk,w.heap[r]?=some (.map es clk)/\EntR es.toList d
theorem MapS.keep {w w':World} {r:Nat} {d:List Ent} (h:MapS w r d) (hk:w'.heap[r]?=w.heap[r]?):MapS w' r d:=let ⟨es,clk,h1,h2⟩:=h;⟨es,clk,hk.trans h1,h2⟩
theorem MapS.lt {w:World} {r:Nat} {d:List Ent} (h:MapS w r d):r<w.heap.size:=by
 obtain ⟨es,clk,h1,_⟩:=h
 exact (Array.getElem?_eq_some_iff.1 h1).1
def getS (d:List Ent) (s:Bs):Option Value:=(d.find? fun p=>decide (p.1=s)).map Prod.snd
def putS:List Ent->Bs->Value->List Ent
 | [],s,v=>[(s,v)]
 | p :: r,s,v=>if p.1=s then (s,v) :: r else p :: putS r s v
theorem same_str (a b:Bs):Instr.sameNow .string (.string ⟨a.toArray⟩) (.string ⟨b.toArray⟩)=some (decide (a=b)):=by
 show some ((⟨a.toArray⟩:ByteArray) == ⟨b.toArray⟩)=_
 congr 1
 rw [Bool.eq_iff_iff,MapKept.bytes_beq,decide_eq_true_eq]
 constructor
 ·intro h
  have:=congrArg (fun x:ByteArray=>x.data.toList) h
  exact this
 ·rintro rfl;rfl
theorem EntR.nil:EntR [] []:=rfl
theorem EntR.cons {x:MapEntry} {l:List MapEntry} {d:List Ent} (h:EntR (x :: l) d):∃ p d',d=p :: d'/\x.key=.string ⟨p.1.toArray⟩/\x.val=p.2/\EntR l d':=by
 unfold EntR at h
 cases d with
 | nil=>simp at h
 | cons p d' =>
  simp only [List.map_cons,List.cons.injEq,Prod.mk.injEq] at h
  exact ⟨p,d',rfl,h.1.1,h.1.2,h.2⟩
theorem findS (s:Bs) (v:Value):∀ (l:List MapEntry) (d:List Ent) (i:Nat),EntR l d ->
  (getS d s=none/\Instr.findNow .string (.string ⟨s.toArray⟩) l i=some none/\putS d s v=d++[(s,v)]) \/
  (∃ j u,getS d s=some u/\Instr.findNow .string (.string ⟨s.toArray⟩) l i=some (some (i+j,u))/\(∃ e,l[j]?=some e/\e.key=.string ⟨s.toArray⟩) /\
   ∀ f:MapEntry->MapEntry,(∀ e,(f e).key=.string ⟨s.toArray⟩/\(f e).val=v)->EntR (l.modify j f) (putS d s v))
 | [],d,i,h=>by
  unfold EntR at h
  cases d with
  | nil=>exact .inl ⟨rfl,rfl,rfl⟩
  | cons p d'=>simp at h
 | x :: l,d,i,h=>by
  obtain ⟨p,d',rfl,hx,hv,hl⟩:=h.cons
  unfold Instr.findNow
  rw [hx,same_str]
  by_cases e:p.1=s
  ·rw [decide_eq_true e.symm]
   refine .inr ⟨0,p.2,by simp [getS,e],by simp [hv],⟨x,rfl,by rw [hx,e]⟩,fun f hf=>?_⟩
   simp only [putS,if_pos e,List.modify_zero_cons,EntR,List.map_cons,(hf x).1,(hf x).2]
   rw [show l.map (fun x=>(x.key,x.val))=_ from hl]
  ·rw [decide_eq_false (fun h=>e h.symm)]
   simp only [putS,if_neg e]
   have hg:getS (p :: d') s=getS d' s:=by simp [getS,e]
   rw [hg]
   rcases findS s v l d' (i+1) hl with ⟨h1,h2,h3⟩ | ⟨j,u,h1,h2,⟨y,h3,h3'⟩,h4⟩
   ·exact .inl ⟨h1,h2,by rw [h3];rfl⟩
   ·refine .inr ⟨j+1,u,h1,by rw [h2];simp;omega,⟨y,by simpa using h3,h3'⟩,fun f hf=>?_⟩
    have:=h4 f hf
    rw [List.modify_succ_cons]
    unfold EntR at this ⊢
    rw [List.map_cons,List.map_cons,this,hx,hv]
theorem run_lookS {P:Program} {w:World} {t kt e:TypeId} {r:Nat} {d:List Ent} (h:MapS w r d) (ht:P.underlying t=some (.map kt e)) (hkt:P.underlying kt=some .string) (s:Bs) (z:Value) (hz:(zeroValue e).run P w=.ok z w) (ok:Bool) :
  (Instr.lookup t (.map (some r)) (.string ⟨s.toArray⟩) ok).run P w=.ok (if ok then .tuple #[(getS d s).getD z,.bool (getS d s).isSome] else (getS d s).getD z) w:=by
 obtain ⟨es,clk,hb,hr⟩:=h
 have hck:∀ b,(Instr.checkKey b 10000 kt (.string ⟨s.toArray⟩)).run P w=.ok () w:=fun b=>MapKept.run_checkKey hkt (show MapKept.IsKey .string (.string ⟨s.toArray⟩) from trivial) b 9999
 rcases findS s z es.toList d 0 hr with ⟨h1,h2,_⟩ | ⟨j,u,h1,h2,_⟩
 ·rw [h1]
  simp [Instr.lookup,run_underlying ht,MapKept.run_getObj_map hb,hck,MapKept.run_findKey hkt h2,Result.andThen,hz]
 ·rw [h1]
  simp [Instr.lookup,run_underlying ht,MapKept.run_getObj_map hb,hck,MapKept.run_findKey hkt h2,Result.andThen]
theorem run_putS {P:Program} {w:World} {t kt e:TypeId} {r:Nat} {d:List Ent} (h:MapS w r d) (ht:P.underlying t=some (.map kt e)) (hkt:P.underlying kt=some .string) (s:Bs) (v:Value) :
  ∃ w',(Instr.mapUpdate t (.map (some r)) (.string ⟨s.toArray⟩) v).run P w=.ok () w'/\MapS w' r (putS d s v)/\w.grownBy w' (some r):=by
 obtain ⟨es,clk,hb,hr⟩:=h
 have hck:∀ b,(Instr.checkKey b 10000 kt (.string ⟨s.toArray⟩)).run P w=.ok () w:=fun b=>MapKept.run_checkKey hkt (show MapKept.IsKey .string (.string ⟨s.toArray⟩) from trivial) b 9999
 rcases findS s v es.toList d 0 hr with ⟨h1,h2,h3⟩ | ⟨j,u,h1,h2,⟨y,h3,h3'⟩,h4⟩
 ·refine ⟨ChangeMaps.setBlock w r (.map (es.push ⟨.string ⟨s.toArray⟩,v,clk⟩) (clk+1)),?_,⟨_,_,ChangeMaps.heap_setBlock_same hb _,?_⟩,⟨rfl,rfl,rfl,by simp [ChangeMaps.setBlock],fun i _ hi=>ChangeMaps.heap_setBlock_other hb _ (fun e=>hi (by rw [e]))⟩⟩
  ·simp [Instr.mapUpdate,run_underlying ht,MapKept.run_getObj_map hb,hck,MapKept.run_findKey hkt h2,MapKept.run_setObj_map _ hb,Result.andThen,ChangeMaps.setBlock]
  ·rw [h3]
   unfold EntR at hr ⊢
   rw [Array.toList_push,List.map_append,hr,List.map_append]
   rfl
 ·have hks:(Instr.keyThatStays (.string ⟨s.toArray⟩) (.string ⟨s.toArray⟩)).run P w=.ok (.string ⟨s.toArray⟩) w:=by
   have:Instr.sameBits 10000 (.string ⟨s.toArray⟩) (.string ⟨s.toArray⟩)=true:=(MapKept.bytes_beq _ _).2 rfl
   unfold Instr.keyThatStays
   rw [if_pos this]
   rfl
  have hy:((es[j]?).map (·.key)).getD (Value.string ⟨s.toArray⟩)=.string ⟨s.toArray⟩:=by
   rw [<- Array.getElem?_toList,h3];exact h3'
  refine ⟨ChangeMaps.setBlock w r (.map (es.modify j fun e=>{ e with key := .string ⟨s.toArray⟩,val:=v }) clk),?_,⟨_,_,ChangeMaps.heap_setBlock_same hb _,?_⟩,⟨rfl,rfl,rfl,by simp [ChangeMaps.setBlock],fun i _ hi=>ChangeMaps.heap_setBlock_other hb _ (fun e=>hi (by rw [e]))⟩⟩
  ·rw [Nat.zero_add] at h2
   simp only [Instr.mapUpdate,run_underlying ht,MapKept.run_getObj_map hb,hck,MapKept.run_findKey hkt h2,Sem.run_bind,Result.andThen,hy,hks,MapKept.run_setObj_map _ hb,ChangeMaps.setBlock]
  ·rw [Array.toList_modify]
   exact h4 _ fun e=>⟨rfl,rfl⟩
section
variable {P:Program} {w:World} {ops:Array Oper} {rest:List Oper} {o:Oper} {a:Act} {Q:Exit->Act->World->Prop}
theorem wpList_lookS (hg:o.guard=none) (m x:Operand) (t:TypeId) (hop:o.op=Op.lookup t m x false) (kt e:TypeId) (ht:P.underlying t=some (.map kt e)) (hkt:P.underlying kt=some .string) (z:Value) (hz:∀ W,(zeroValue e).run P W=.ok z W) (r:Nat) (d:List Ent) (s:Bs)
  (hm:a.eval m=.map (some r)) (h:MapS w r d) (hx:a.eval x=.string ⟨s.toArray⟩) (hK:wpList P ops Q rest (a.put o.dst ((getS d s).getD z)) w):wpList P ops Q (o :: rest) a w:=by
 refine wpList_plain hg fun K' hK'=>?_
 unfold Oper.wp
 simp [execOp,hop,hm,hx,run_lookS h ht hkt s z (hz w) false,Result.andThen]
 exact hK' _ _ hK
theorem wpList_putS (hg:o.guard=none) (m x v:Operand) (t:TypeId) (hop:o.op=Op.mapUpdate t m x v) (kt e:TypeId) (ht:P.underlying t=some (.map kt e)) (hkt:P.underlying kt=some .string) (r:Nat) (d:List Ent) (s:Bs) (val:Value)
  (hm:a.eval m=.map (some r)) (h:MapS w r d) (hx:a.eval x=.string ⟨s.toArray⟩) (hv:a.eval v=val)
  (hK:∀ w',MapS w' r (putS d s val)->w.grownBy w' (some r)->wpList P ops Q rest (a.put o.dst undef) w'):wpList P ops Q (o :: rest) a w:=by
 refine wpList_plain hg fun K' hK'=>?_
 obtain ⟨w',hrun,h1,h2⟩:=run_putS h ht hkt s val
 unfold Oper.wp
 simp [execOp,hop,hm,hx,hv,hrun,Result.andThen]
 exact hK' _ _ (hK w' h1 h2)
end
def nmE (l:List Bs):List Ent:=l.map fun s=>(s,.bool true)
def NmS (w:World) (r:Nat) (l:List Bs):Prop:=MapS w r (nmE l)
theorem nmE_get:∀ (l:List Bs) (s:Bs),(getS (nmE l) s).getD (.bool false)=.bool (l.contains s)
 | [],s=>rfl
 | x :: r,s=>by
  by_cases e:x=s
  ·subst e
   simp [getS,nmE]
  ·have ih:=nmE_get r s
   have h1:getS (nmE (x :: r)) s=getS (nmE r) s:=by simp [getS,nmE,e]
   have h2:(x :: r).contains s=r.contains s:=by
    rw [List.contains_cons,beq_eq_false_iff_ne.2 (fun h=>e h.symm),Bool.false_or]
   rw [h1,h2,ih]
def addN (l:List Bs) (s:Bs):List Bs:=if l.contains s then l else l++[s]
theorem nmE_put:∀ (l:List Bs) (s:Bs),putS (nmE l) s (.bool true)=nmE (addN l s)
 | [],s=>rfl
 | x :: r,s=>by
  have ih:=nmE_put r s
  by_cases e:x=s
  ·subst e
   simp [putS,nmE,addN]
  ·have h2:(x :: r).contains s=r.contains s:=by
    rw [List.contains_cons,beq_eq_false_iff_ne.2 (fun h=>e h.symm),Bool.false_or]
   have h3:addN (x :: r) s=x :: addN r s:=by unfold addN;rw [h2];split <;> rfl
   rw [h3]
   show (if x=s then _ else (x,Value.bool true) :: putS (nmE r) s (.bool true))=_
   rw [if_neg e,ih]
   rfl
theorem NmS.keep {w w':World} {r:Nat} {l:List Bs} (h:NmS w r l) (hk:w'.heap[r]?=w.heap[r]?):NmS w' r l:=MapS.keep h hk
theorem NmS.lt {w:World} {r:Nat} {l:List Bs} (h:NmS w r l):r<w.heap.size:=MapS.lt h
def ctE (d:List (Bs × Nat)):List Ent:=d.map fun p=>(p.1,.int .i64 (p.2:Int))
def CtS (w:World) (r:Nat) (d:List (Bs × Nat)):Prop:=MapS w r (ctE d)
def getC (d:List (Bs × Nat)) (s:Bs):Option Nat:=(d.find? fun p=>decide (p.1=s)).map Prod.snd
theorem ctE_get:∀ (d:List (Bs × Nat)) (s:Bs),getS (ctE d) s=(getC d s).map fun n => .int .i64 (n:Int)
 | [],s=>rfl
 | x :: r,s=>by
  have ih:=ctE_get r s
  by_cases e:x.1=s
  ·simp [getS,getC,ctE,e]
  ·have h1:getS (ctE (x :: r)) s=getS (ctE r) s:=by simp [getS,ctE,e]
   have h2:getC (x :: r) s=getC r s:=by simp [getC,e]
   rw [h1,h2,ih]
theorem ctE_put:∀ (d:List (Bs × Nat)) (s:Bs) (n:Nat),getC d s=none->putS (ctE d) s (.int .i64 (n:Int))=ctE (d++[(s,n)])
 | [],s,n,_=>rfl
 | x :: r,s,n,h=>by
  have e:¬ x.1=s:=by intro e;simp [getC,e] at h
  have h2:getC (x :: r) s=getC r s:=by simp [getC,e]
  rw [h2] at h
  show (if x.1=s then _ else (x.1,Value.int .i64 (x.2:Int)) :: putS (ctE r) s (.int .i64 (n:Int)))=_
  rw [if_neg e,ctE_put r s n h]
  rfl
theorem CtS.keep {w w':World} {r:Nat} {d:List (Bs × Nat)} (h:CtS w r d) (hk:w'.heap[r]?=w.heap[r]?):CtS w' r d:=MapS.keep h hk
theorem CtS.lt {w:World} {r:Nat} {d:List (Bs × Nat)} (h:CtS w r d):r<w.heap.size:=MapS.lt h
open Go.RowKit
def onlyP (Q:Exit->Act->World->Prop) (R:List PanicEntry->World->Prop):Exit->Act->World->Prop
 | .normal,a,w=>Q .normal a w
 | .panic c,a,w=>a.defers=[]/\R c w
 | _,_,_=>False
theorem put_defers (a:Act) (d:Option Nat) (v:Value):(a.put d v).defers=a.defers:=by cases d <;> rfl
theorem onlyP_put {Q:Exit->Act->World->Prop} {R:List PanicEntry->World->Prop} {d:Option Nat} {v:Value}:∀ (c:List PanicEntry) (a:Act) (w:World),onlyP Q R (.panic c) (a.put d v) w->onlyP Q R (.panic c) a w :=
 fun c a w h=>⟨(put_defers a d v).symm.trans h.1,h.2⟩
theorem wpIn_onlyP {F:Fence} {n:Nat} {P:Program} {Q:Exit->Act->World->Prop} (R:List PanicEntry->World->Prop) (hR:∀ c a w,a.defers=[]/\R c w->Q (.panic c) a w) {c:Code} {a:Act} {w:World} (h:c.wpIn F n P (onlyP Q R) a w):c.wpIn F n P Q a w :=
 wpIn_mono h (by
  intro e a w h
  cases e with
  | normal=>exact h
  | panic c=>exact hR c a w h
  | _=>exact h.elim)
abbrev posV (p:Int × Int):Value := .agg #[.int .i64 p.1,.int .i64 p.2]
def fltC (f:Flt):List PanicEntry:=[{ v := .iface 116 (.agg #[.int .i64 f.1.1,.int .i64 f.1.2,.int .i64 f.2]),recovered:=false }]
structure But (F:Nat->Prop) (w w':World):Prop where
 os:w'.os=w.os
 tape:w'.tape=w.tape
 output:w'.output=w.output
 size:w.heap.size<=w'.heap.size
 block:∀ k,k<w.heap.size->¬ F k->w'.heap[k]?=w.heap[k]?
theorem But.refl (F:Nat->Prop) (w:World):But F w w:=⟨rfl,rfl,rfl,Nat.le_refl _,fun _ _ _=>rfl⟩
theorem But.of_below {w w':World} (F:Nat->Prop) (h:Below w.heap.size w w'):But F w w':=⟨h.os,h.tape,h.output,h.size,fun k hk _=>h.block k hk⟩
theorem But.trans {F:Nat->Prop} {a b c:World} (h:But F a b) (k:But F b c):But F a c :=
 ⟨k.os.trans h.os,k.tape.trans h.tape,k.output.trans h.output,Nat.le_trans h.size k.size,fun i hi hF=>(k.block i (Nat.lt_of_lt_of_le hi h.size) hF).trans (h.block i hi hF)⟩
theorem But.below {F:Nat->Prop} {w w':World} {B:Nat} (h:But F w w') (hB:B<=w.heap.size) (hF:∀ k,F k->B<=k):Below B w w' :=
 ⟨h.os,h.tape,h.output,h.size,fun k hk=>h.block k (by omega) fun hf=>by have:=hF k hf;omega⟩
theorem But.mono {F G:Nat->Prop} {w w':World} (h:But F w w') (hFG:∀ k,F k->G k):But G w w':=⟨h.os,h.tape,h.output,h.size,fun k hk hg=>h.block k hk fun hf=>hg (hFG k hf)⟩
theorem But.of_grown {w w':World} {r:Nat} (h:w.grownBy w' (some r)):But (fun k=>k=r) w w':=⟨h.os,h.tape,h.output,h.size,fun k hk hF=>h.block k hk fun e=>by cases e;exact hF rfl⟩
def PrB (B:Nat) (w:World):Prop:=∃ w0,PrE0 w0/\w0.heap.size=B/\Below B w0 w
theorem PrB.e {B:Nat} {w:World} (h:PrB B w):PrE0 w:=by
 obtain ⟨w0,h0,rfl,hb⟩:=h
 exact h0.below hb
theorem PrB.step {B:Nat} {w w':World} (h:PrB B w) (hb:Below B w w'):PrB B w':=by
 obtain ⟨w0,h0,hs,hb0⟩:=h
 exact ⟨w0,h0,hs,hb0.trans hb⟩
theorem PrB.size {B:Nat} {w:World} (h:PrB B w):B<=w.heap.size:=by
 obtain ⟨w0,h0,rfl,hb⟩:=h
 exact hb.size
theorem PrE0.b {w:World} (h:PrE0 w):PrB w.heap.size w:=⟨w,h,rfl,Below.refl _ _⟩
theorem need_true (pos:Int × Int) (er:Int) (w:World):Calls Tryz.prog 118 #[.bool true,posV pos,.int .i64 er] w fun e w'=>e=.returned (.tuple #[])/\Below w.heap.size w w':=by
 unfold posV
 go_enter Tryz.func118,Tryz.ntmps118
 go_wp2
 go_end0
 exact ⟨rfl,bA⟩
theorem need_false (pos:Int × Int) (er:Int) (w:World):Calls Tryz.prog 118 #[.bool false,posV pos,.int .i64 er] w fun e w'=>e=.panicked (fltC (pos,er))/\Below w.heap.size w w':=by
 unfold posV
 go_enter Tryz.func118,Tryz.ntmps118
 go_wp2
 exact ⟨rfl,rfl,bA⟩
def DeclBad (f:Flt) (w:World) (e:Ending) (w':World):Prop:=e=.panicked (fltC f)/\Below w.heap.size w w'
def DeclOk (r:Nat) (l:List Bs) (w:World) (e:Ending) (w':World):Prop:=e=.returned (.tuple #[])/\NmS w' r l/\But (fun k=>k=r) w w'
theorem decl_bad (s:Bs) (pos:Int × Int) (r:Nat) (l:List Bs) (B:Nat) (w:World) (hE:PrB B w) (hm:NmS w r l) (hB:B<=r) (hn:namedB s=false) :
  Calls Tryz.prog 119 #[.map (some r),.string ⟨s.toArray⟩,posV pos] w (DeclBad (pos,4) w):=by
 have HE:=hid hE;have HM:=hid hm;have HBR:=hid hB
 have hrs:r<w.heap.size:=hm.lt
 have HRS:=hid hrs
 have HN:=hid hn
 clear hE hm hB hrs hn
 unfold posV
 go_enter Tryz.func119,Tryz.ntmps119
 go_wp2_with fail
 obtain ⟨w0,hw0⟩:∃ W,w.alloc (.cells #[.int .i64 pos.1,.int .i64 pos.2] 39)=W:=⟨_,rfl⟩
 have h0:w0.cell? ⟨w.heap.size,0,none⟩=some (.int .i64 pos.1):=by rw [<- hw0,cell_al];simp
 have h1:w0.cell? ⟨w.heap.size,1,none⟩=some (.int .i64 pos.2):=by rw [<- hw0,cell_al];simp
 have hb0:Below w.heap.size w w0:=by rw [<- hw0];exact bA
 rw [hw0]
 clear hw0
 have hb1:=hb0.drew
 have h0':w0.drew.cell? ⟨w.heap.size,0,none⟩=some (.int .i64 pos.1):=h0
 have h1':w0.drew.cell? ⟨w.heap.size,1,none⟩=some (.int .i64 pos.2):=h1
 clear h0 h1 hb0
 have hS:(fun W=>W.cell? ⟨w.heap.size,0,none⟩=some (.int .i64 pos.1)/\W.cell? ⟨w.heap.size,1,none⟩=some (.int .i64 pos.2)) w0.drew:=⟨h0',h1'⟩
 have HB1:=hid hb1
 clear hb1 h0' h1'
 have hFa:∀ f,Fence.wide.fn f:=fun _=>trivial
 refine (wpIn_wide (n:=9)).1 ?_
 refine wpIn_onlyP (fun c w'=>(DeclBad (pos,4) w) (.panicked c) w') (fun _ _ _ h=>h) ?_
 refine wpIn_region_HJ (fun W=>W.cell? ⟨w.heap.size,0,none⟩=some (.int .i64 pos.1)/\W.cell? ⟨w.heap.size,1,none⟩=some (.int .i64 pos.2)) 3 (by kernel_rfl) ?_
 simp only [zP,Nat.reduceAdd]
 refine wpHJ_pure (v:=?v0) 0 hFa rfl (by kernel_rfl) onlyP_put (Or.inl ⟨by rfl,?y0⟩) (.inr hS) ?r0
 case y0=>(intro w' _;go_simp;try rfl)
 simp only [aP]
 refine wpHJ_take (v:=?v1) 2 hFa rfl (by kernel_rfl) onlyP_put (Or.inl ⟨by rfl,?y1⟩) hS ?r1
 case y1=>(rintro w' ⟨s0,s1⟩;go_simp;try rfl)
 simp only [aP]
 refine oy 1 fun K hK=>?_
 go_simp
 (with_reducible refine (callsIn_wide.2 (named_any s w0.drew (HE.out.step (HB1.out.mono HE.out.size)).e)).mono ?_)
 rintro e w2 ⟨rfl,hb2⟩
 rw [HN.out]
 have hS2:(fun W=>W.cell? ⟨w.heap.size,0,none⟩=some (.int .i64 pos.1)/\W.cell? ⟨w.heap.size,1,none⟩=some (.int .i64 pos.2)) w2:=⟨cB hb2 hS.1,cB hb2 hS.2⟩
 have HB2:=hid (HB1.trans (hb2.mono HB1.size))
 clear hb2 hS
 refine hK _ _ (.inr (.inr hS2)) ?_
 clear hK K
 refine oy 3 fun K hK=>?_
 go_simp
 (with_reducible refine (callsIn_wide.2 (need_false pos 4 w2)).mono ?_)
 rintro e w3 ⟨rfl,hb3⟩
 exact ⟨rfl,rfl,HB2.trans (hb3.mono HB2.size)⟩
theorem decl_twice (s:Bs) (pos:Int × Int) (r:Nat) (l:List Bs) (B:Nat) (w:World) (hE:PrB B w) (hm:NmS w r l) (hB:B<=r) (hn:namedB s=true) (hc:l.contains s=true) :
  Calls Tryz.prog 119 #[.map (some r),.string ⟨s.toArray⟩,posV pos] w (DeclBad (pos,8) w):=by
 have HE:=hid hE;have HM:=hid hm;have HBR:=hid hB
 have hrs:r<w.heap.size:=hm.lt
 have HRS:=hid hrs
 have HN:=hid hn
 clear hE hm hB hrs hn
 unfold posV
 go_enter Tryz.func119,Tryz.ntmps119
 go_wp2_with fail
 obtain ⟨w0,hw0⟩:∃ W,w.alloc (.cells #[.int .i64 pos.1,.int .i64 pos.2] 39)=W:=⟨_,rfl⟩
 have h0:w0.cell? ⟨w.heap.size,0,none⟩=some (.int .i64 pos.1):=by rw [<- hw0,cell_al];simp
 have h1:w0.cell? ⟨w.heap.size,1,none⟩=some (.int .i64 pos.2):=by rw [<- hw0,cell_al];simp
 have hb0:Below w.heap.size w w0:=by rw [<- hw0];exact bA
 rw [hw0]
 clear hw0
 have hb1:=hb0.drew
 have h0':w0.drew.cell? ⟨w.heap.size,0,none⟩=some (.int .i64 pos.1):=h0
 have h1':w0.drew.cell? ⟨w.heap.size,1,none⟩=some (.int .i64 pos.2):=h1
 clear h0 h1 hb0
 have hS:(fun W=>W.cell? ⟨w.heap.size,0,none⟩=some (.int .i64 pos.1)/\W.cell? ⟨w.heap.size,1,none⟩=some (.int .i64 pos.2)) w0.drew:=⟨h0',h1'⟩
 have HB1:=hid hb1
 clear hb1 h0' h1'
 have hFa:∀ f,Fence.wide.fn f:=fun _=>trivial
 refine (wpIn_wide (n:=9)).1 ?_
 refine wpIn_onlyP (fun c w'=>(DeclBad (pos,8) w) (.panicked c) w') (fun _ _ _ h=>h) ?_
 refine wpIn_region_HJ (fun W=>W.cell? ⟨w.heap.size,0,none⟩=some (.int .i64 pos.1)/\W.cell? ⟨w.heap.size,1,none⟩=some (.int .i64 pos.2)) 3 (by kernel_rfl) ?_
 simp only [zP,Nat.reduceAdd]
 refine wpHJ_pure (v:=?v0) 0 hFa rfl (by kernel_rfl) onlyP_put (Or.inl ⟨by rfl,?y0⟩) (.inr hS) ?r0
 case y0=>(intro w' _;go_simp;try rfl)
 simp only [aP]
 refine wpHJ_take (v:=?v1) 2 hFa rfl (by kernel_rfl) onlyP_put (Or.inl ⟨by rfl,?y1⟩) hS ?r1
 case y1=>(rintro w' ⟨s0,s1⟩;go_simp;try rfl)
 simp only [aP]
 refine oy 1 fun K hK=>?_
 go_simp
 (with_reducible refine (callsIn_wide.2 (named_any s w0.drew (HE.out.step (HB1.out.mono HE.out.size)).e)).mono ?_)
 rintro e w2 ⟨rfl,hb2⟩
 rw [HN.out]
 have hS2:(fun W=>W.cell? ⟨w.heap.size,0,none⟩=some (.int .i64 pos.1)/\W.cell? ⟨w.heap.size,1,none⟩=some (.int .i64 pos.2)) w2:=⟨cB hb2 hS.1,cB hb2 hS.2⟩
 have HB2:=hid (HB1.trans (hb2.mono HB1.size))
 clear hb2 hS
 refine hK _ _ (.inr (.inr hS2)) ?_
 clear hK K
 refine oy 3 fun K hK=>?_
 go_simp
 (with_reducible refine (callsIn_wide.2 (need_true pos 4 w2)).mono ?_)
 rintro e w3 ⟨rfl,hb3⟩
 have HB3:=hid (HB2.trans (hb3.mono HB2.size))
 have g0:w3.cell? ⟨w.heap.size,0,none⟩=some (.int .i64 pos.1):=cB hb3 hS2.1
 have g1:w3.cell? ⟨w.heap.size,1,none⟩=some (.int .i64 pos.2):=cB hb3 hS2.2
 clear hb3 hS2
 refine hK _ _ (.inl rfl) (dN ?_)
 clear hK K
 simp only [onlyP,Exit.then]
 clear hFa
 have hm3:NmS w3 r l:=HM.keep (HB3.block r HRS.out)
 have HC:=hid hc
 clear hc
 go_wp2_with (first
  | (at_lookup;refine wpList_lookS rfl _ _ 119 rfl 9 4 Tryz.underlying119 Tryz.underlying9 (.bool false) (fun W=>by kernel_rfl) r (nmE l) s rfl hm3 rfl ?_;rw [nmE_get,HC.out])
  | (go_at_call 118;with_reducible refine (need_false pos 8 _).mono ?_;rintro e w4 ⟨rfl,hb4⟩;have HB4:=hid (HB3.out.trans (hb4.mono HB3.out.size));have hm4:=hm3.keep (hb4.block r hm3.lt);clear hb4 hm3))
 exact ⟨rfl,rfl,HB4.out⟩
theorem decl_ok (s:Bs) (pos:Int × Int) (r:Nat) (l:List Bs) (B:Nat) (w:World) (hE:PrB B w) (hm:NmS w r l) (hB:B<=r) (hn:namedB s=true) (hc:l.contains s=false) :
  Calls Tryz.prog 119 #[.map (some r),.string ⟨s.toArray⟩,posV pos] w (DeclOk r (l++[s]) w):=by
 have HE:=hid hE;have HM:=hid hm;have HBR:=hid hB
 have hrs:r<w.heap.size:=hm.lt
 have HRS:=hid hrs
 have HN:=hid hn
 clear hE hm hB hrs hn
 unfold posV
 go_enter Tryz.func119,Tryz.ntmps119
 go_wp2_with fail
 obtain ⟨w0,hw0⟩:∃ W,w.alloc (.cells #[.int .i64 pos.1,.int .i64 pos.2] 39)=W:=⟨_,rfl⟩
 have h0:w0.cell? ⟨w.heap.size,0,none⟩=some (.int .i64 pos.1):=by rw [<- hw0,cell_al];simp
 have h1:w0.cell? ⟨w.heap.size,1,none⟩=some (.int .i64 pos.2):=by rw [<- hw0,cell_al];simp
 have hb0:Below w.heap.size w w0:=by rw [<- hw0];exact bA
 rw [hw0]
 clear hw0
 have hb1:=hb0.drew
 have h0':w0.drew.cell? ⟨w.heap.size,0,none⟩=some (.int .i64 pos.1):=h0
 have h1':w0.drew.cell? ⟨w.heap.size,1,none⟩=some (.int .i64 pos.2):=h1
 clear h0 h1 hb0
 have hS:(fun W=>W.cell? ⟨w.heap.size,0,none⟩=some (.int .i64 pos.1)/\W.cell? ⟨w.heap.size,1,none⟩=some (.int .i64 pos.2)) w0.drew:=⟨h0',h1'⟩
 have HB1:=hid hb1
 clear hb1 h0' h1'
 have hFa:∀ f,Fence.wide.fn f:=fun _=>trivial
 refine (wpIn_wide (n:=9)).1 ?_
 refine wpIn_onlyP (fun c w'=>(DeclOk r (l++[s]) w) (.panicked c) w') (fun _ _ _ h=>h) ?_
 refine wpIn_region_HJ (fun W=>W.cell? ⟨w.heap.size,0,none⟩=some (.int .i64 pos.1)/\W.cell? ⟨w.heap.size,1,none⟩=some (.int .i64 pos.2)) 3 (by kernel_rfl) ?_
 simp only [zP,Nat.reduceAdd]
 refine wpHJ_pure (v:=?v0) 0 hFa rfl (by kernel_rfl) onlyP_put (Or.inl ⟨by rfl,?y0⟩) (.inr hS) ?r0
 case y0=>(intro w' _;go_simp;try rfl)
 simp only [aP]
 refine wpHJ_take (v:=?v1) 2 hFa rfl (by kernel_rfl) onlyP_put (Or.inl ⟨by rfl,?y1⟩) hS ?r1
 case y1=>(rintro w' ⟨s0,s1⟩;go_simp;try rfl)
 simp only [aP]
 refine oy 1 fun K hK=>?_
 go_simp
 (with_reducible refine (callsIn_wide.2 (named_any s w0.drew (HE.out.step (HB1.out.mono HE.out.size)).e)).mono ?_)
 rintro e w2 ⟨rfl,hb2⟩
 rw [HN.out]
 have hS2:(fun W=>W.cell? ⟨w.heap.size,0,none⟩=some (.int .i64 pos.1)/\W.cell? ⟨w.heap.size,1,none⟩=some (.int .i64 pos.2)) w2:=⟨cB hb2 hS.1,cB hb2 hS.2⟩
 have HB2:=hid (HB1.trans (hb2.mono HB1.size))
 clear hb2 hS
 refine hK _ _ (.inr (.inr hS2)) ?_
 clear hK K
 refine oy 3 fun K hK=>?_
 go_simp
 (with_reducible refine (callsIn_wide.2 (need_true pos 4 w2)).mono ?_)
 rintro e w3 ⟨rfl,hb3⟩
 have HB3:=hid (HB2.trans (hb3.mono HB2.size))
 have g0:w3.cell? ⟨w.heap.size,0,none⟩=some (.int .i64 pos.1):=cB hb3 hS2.1
 have g1:w3.cell? ⟨w.heap.size,1,none⟩=some (.int .i64 pos.2):=cB hb3 hS2.2
 clear hb3 hS2
 refine hK _ _ (.inl rfl) (dN ?_)
 clear hK K
 simp only [onlyP,Exit.then]
 clear hFa
 have hm3:NmS w3 r l:=HM.keep (HB3.block r HRS.out)
 have HC:=hid hc
 clear hc
 go_wp2_with (first
  | (at_lookup;refine wpList_lookS rfl _ _ 119 rfl 9 4 Tryz.underlying119 Tryz.underlying9 (.bool false) (fun W=>by kernel_rfl) r (nmE l) s rfl hm3 rfl ?_;rw [nmE_get,HC.out])
  | (go_at_call 118;with_reducible refine (need_true pos 8 _).mono ?_;rintro e w4 ⟨rfl,hb4⟩;have HB4:=hid (HB3.out.trans (hb4.mono HB3.out.size));have hm4:=hm3.keep (hb4.block r hm3.lt);clear hb4 hm3)
  | (at_mapUpdate;refine wpList_putS rfl _ _ _ 119 rfl 9 4 Tryz.underlying119 Tryz.underlying9 r (nmE l) s (.bool true) rfl hm4 rfl rfl ?_;intro w5 hm5 hg5;rw [nmE_put] at hm5))
 go_end0
 refine ⟨rfl,?_,(But.of_below _ HB4.out).trans ((But.of_grown hg5).mono fun k h=>h)⟩
 have e:addN l s=l++[s]:=by unfold addN;rw [HC.out];rfl
 rw [<- e];exact hm5
end Go.Proofs.YtoofbgoeipijcaaGreatDoor
