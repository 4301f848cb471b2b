/-
 strconv.FormatUint at base 10: the walk, over the shelf's contracts of its callees.
-/
import Derived.Test.YtbijamcoibonkaaDoorCB1
import Derived.Test.YtbijamcoibonkaaDoorCSShelf
import Derived.Lib.ItoaMem
import Derived.Test.YtbijamcoibonkaaDoorCB18
import Derived.Test.YtbijamcoibonkaaDoorCB8
import Derived.Test.YtbijamcoibonkaaDoorCB13
import Derived.Deep.DeepCutAuto
import Derived.Lib.ItoaLen
import Derived.Test.YtbijamcoibonkaaDoorCSPaT
import Derived.Test.YtbijamcoibonkaaDoorCB15
import Derived.Recover
import Derived.Test.YtbijamcoibonkaaDoorCB17
import Derived.Lib.AppendIntMem
namespace Go.Proofs.YtbijamcoibonkaaDoor
set_option linter.unusedSimpArgs false
set_option linter.unusedVariables false
open Go.RowKit Go.Shelf Go.Lib Go.Sort
end Go.Proofs.YtbijamcoibonkaaDoor
namespace Go.Proofs.YtbijamcoibonkaaDoor
set_option linter.unusedSimpArgs false
set_option linter.unusedVariables false
open Go.RowKit Go.Shelf
attribute [local go_sem] Oper.semAt_some
def sv (s:Bs):Value := .string ⟨s.toArray⟩
theorem each_sv {R:Nat→Prop} {w:World}:∀ {css:List (List Value)} {l:List Bs},Each kStr R w css l→css.flatten=l.map sv
 | [],[],_=>rfl
 | [],_ :: _,h=>by have:=h.1;simp at this
 | _ :: _,[],h=>by have:=h.1;simp at this
 | c :: css,x :: l,h=>by
  have h0:c=[sv x]:=h.2 0 (by simp) (by simp)
  have ht:Each kStr R w css l:=⟨by have:=h.1;simpa using this,fun i hi hi'=>by have:=h.2 (i+1) (by simp;omega) (by simp;omega);simpa using this⟩
  rw [List.flatten_cons,each_sv ht,h0];rfl
theorem SlG.strs {R:Nat→Prop} {w:World} {p:Option Addr} {n c:Nat} {l:List Bs} (h:SlG kStr R w (.slice p n c) l):n=l.length∧l.length≤c∧l.length≤140737488355328∧RowR R w p (l.map sv):=by
 obtain ⟨css,h1,p',c',e,h2,h3,h4,h5⟩:=h
 cases e
 rw [each_sv h1] at h5
 exact ⟨rfl,h2,h4,h5⟩
theorem GA.litS {B:Nat} (w:World) (te:TypeId) (xs:List Bs) (h0:xs ≠ []) (hl:xs.length≤100) (hB:B≤w.heap.size):GA kStr B te (w.alloc (.cells (xs.map sv).toArray te)) (.slice (some ⟨w.heap.size,0,none⟩) xs.length xs.length) xs:=by
 refine ⟨⟨xs.map fun x=>[sv x],⟨by simp,fun i hi hi'=>by simp;rfl⟩,?_⟩⟩
 have hf:(xs.map fun x=>[sv x]).flatten=xs.map sv:=by induction xs with
  | nil=>rfl
  | cons x r ih=>simp only [List.map_cons,List.flatten_cons,List.singleton_append];congr 1;exact (by clear ih h0 hl;induction r with | nil=>rfl | cons y r ih=>simp only [List.map_cons,List.flatten_cons,List.singleton_append,ih])
 rw [hf]
 refine ⟨by simp [kStr],.inr ⟨w.heap.size,xs.length,(xs.map sv).toArray,rfl,hB,by rw [heap_al,if_pos rfl],Nat.le_refl _,by unfold maxLen;omega,by simp [kStr],?_⟩⟩
 simp only [kStr,Nat.mul_one]
 exact List.take_of_length_le (by simp)
theorem ml_id (l:List Bs):(l.map fun s:Bs=>(⟨s.toArray⟩:ByteArray)).map (·.data.toList)=l:=by
 rw [List.map_map];exact (List.map_congr_left fun s _=>rfl).trans (List.map_id _)
theorem joinS_any (l:List Bs) (v:Value) (R:Nat→Prop) (w:World) (h:SlG kStr R w v l) (hR:∀ k,R k→k<w.heap.size) (hlen:(jn l).length≤140737488355328) :
  Calls Tryd.prog 32 #[v,.string ⟨#[32]⟩] w fun e w'=>e = .returned (.string ⟨(jn l).toArray⟩)∧Below w.heap.size w w':=by
 obtain ⟨p,c,rfl⟩:=h.slc
 obtain ⟨_,h1,h2,hr⟩:=h.strs
 rcases l with _ | ⟨x,r⟩
 ·exact (Tryd.strings_Join_none p c ⟨#[32]⟩ w).mono fun e w' h=>⟨h.1,by rw [h.2];exact Below.refl _ _⟩
 ·obtain ⟨b,off,rfl,hb,hc⟩:=hr.at 0 (by simp)
  have hml:=ml_id (x :: r)
  have:=Tryd.strings_Join b off c ((x :: r).map fun s=>⟨s.toArray⟩) ⟨#[32]⟩ w (fun j y hj=>by
   rw [List.getElem?_map] at hj
   obtain ⟨s,hs,rfl⟩:=Option.map_eq_some_iff.1 hj
   obtain ⟨hjl,rfl⟩:=List.getElem?_eq_some_iff.1 hs
   rw [hc j (by rw [List.length_map];exact hjl),List.getElem_map];rfl) (hR b hb) (by rw [List.length_map];exact h2) (by rw [List.length_map];exact h1) (by rw [hml];exact hlen)
  rw [hml,List.length_map] at this
  exact this
theorem GA.strs {B:Nat} {e:TypeId} {w:World} {v:Value} {l:List Bs} (h:GA kStr B e w v l):w.ownsRow B e 1 v l.length (l.map sv):=by
 obtain ⟨css,h1,h2⟩:=h.row
 rw [each_sv h1] at h2
 exact h2
theorem textT_app (a b:List Bs):textT (a++b)=textT a++textT b:=by unfold textT;rw [List.flatMap_append]
theorem textT_one (s:Bs):textT [s]=s++[10]:=by simp [textT]
variable {B:Nat} {w0 W W':World} {C:CK} {vl:Value} {rs:List Nat} {S:CS} {m:Nat} {lbl st:List Bs}
theorem rowF_keep {w w':World} {base e size n:Nat} {v:Value} {xs:List Value} (h:w.ownsRowF base e size v n xs) (hf:∀ k,k<w.heap.size→w'.heap[k]?=w.heap[k]?):w'.ownsRowF base e size v n xs:=by
 obtain ⟨hl,h | ⟨g,cap,cur,fz,hv,hB,hg,hr⟩⟩:=h
 ·exact ⟨hl,.inl h⟩
 ·exact ⟨hl,.inr ⟨g,cap,cur,fz,hv,hB,(hf g (Array.getElem?_eq_some_iff.1 hg).1).trans hg,hr⟩⟩
theorem isb_keep {w w':World} {T e B b:Nat} {bs:List Value} (h:Lib.IsBuilderF T e B b bs w) (hb:Below w.heap.size w w'):Lib.IsBuilderF T e B b bs w':=by
 have key:∀ p,Lib.BuilderAtF T e B b p bs w→Lib.BuilderAtF T e B b p bs w':=fun p h=>by
  obtain ⟨h1,v,h2,h3,h4⟩:=h
  exact ⟨h1,v,(hb.block b (Array.getElem?_eq_some_iff.1 h2).1).trans h2,rowF_keep h3 fun k hk=>hb.block k hk,h4⟩
 exact h.imp (key _) (key _)
theorem isb_lt {w:World} {T e B b:Nat} {bs:List Value} (h:Lib.IsBuilderF T e B b bs w):b<w.heap.size:=h.elim (·.lt) (·.lt)
theorem isb_new (w:World) (T e b:Nat) (hb:w.heap[b]?=some (.cells #[.pointer none,.slice none 0 0] T (0,0))):Lib.IsBuilderF T e b b (Lib.byteCells []) w :=
 .inl ⟨Nat.le_refl _,.slice none 0 0,hb,World.ownsRowF_nil _ _ _ _,by simp [Value.ownBlock]⟩
theorem others_below {e:TypeId} {b:Option Nat} {w w':World} (h:Below w.heap.size w w'):Lib.OthersKept e b w w':=fun k o hk _ _=>(h.block k (Array.getElem?_eq_some_iff.1 hk).1).trans hk
theorem kept_box {e t:TypeId} {b k:Nat} {w w':World} {cs:List Value} (h:Lib.OthersKept e (some b) w w') (hx:BxL t k cs w) (hb:k ≠ b) (ht:t ≠ e):BxL t k cs w':=h k _ hx (fun e=>hb (by injection e)) (fun c fz e=>ht (by cases e;rfl))
theorem bwrite_any (b:Nat) (l r:Bs) (s:ByteArray) (w:World) (hs:s=⟨r.toArray⟩) (h:Lib.IsBuilderF 68 5 b b (Lib.byteCells (l)) w) (hlen:l.length+r.length≤140737488355328) :
  Calls Tryd.prog 31 #[.pointer (some ⟨b,0,none⟩),.string s] w fun e w'=>(∃ v,e = .returned v)∧Lib.IsBuilderF 68 5 b b (Lib.byteCells (l++r)) w'∧Below b w w'∧Lib.OthersKept 5 (some b) w w':=by
 subst hs
 have h1:=Any.Builder_WriteString_k (P:=Tryd.prog) { Tryd.lays156 with } Tryd.Builder_Extra_156 b b (Lib.byteCells l) ⟨r.toArray⟩ w h (by rw [Lib.byteCells_length];exact hlen) (Nat.le_of_lt (isb_lt h))
 refine h1.mono fun e w' h=>⟨⟨_,h.1⟩,?_,h.2.2.1,h.2.2.2⟩
 rw [Lib.byteCells_append]
 exact .inr h.2.1
theorem SlG.box {α:Type} {K:EK α} {R:Nat→Prop} {w:World} {b:Nat} {t:TypeId} {cs:List Value} {x:α} (hb:BxL t b cs w) (hx:K.E R w cs x) (hR:R b):SlG K R w (.slice (some ⟨b,0,none⟩) 1 1) [x]:=by
 refine ⟨[cs],⟨rfl,fun i hi hi'=>?_⟩,_,1,rfl,Nat.le_refl _,by unfold maxLen;omega,by simp,.inr ⟨b,0,rfl,hR,fun j hj=>?_⟩⟩
 ·obtain rfl:i=0:=by simp at hi;omega
  exact hx
 ·rw [Nat.zero_add]
  have hj':j<cs.length:=by simpa using hj
  have:=hb.at j (List.getElem?_eq_getElem hj')
  rw [this]
  simp
theorem itoaP_any (n:Int) (w:World) (h0 : -9223372036854775808≤n) (h1:n≤9223372036854775807) (hp:Lib.TabIs Tryd.prog w "internal/strconv.uint64pow10" .u64 Lib.pow10Tab) :
  Calls Tryd.prog 33 #[.int .i64 n] w fun e w'=>e = .returned (.string ⟨(Lib.itoa n).toArray⟩)∧Below w.heap.size w w' :=
 (Tryd.strconv_Itoa n h0 h1 w hp).mono fun e w' ⟨he,k,os,hw⟩=>⟨he,by rw [hw];exact Lib.below_grow _ _ (Nat.le_refl _) _ _⟩
theorem SlG.ofOwn {α:Type} {K:EK α} {R:Nat→Prop} {B e:Nat} {w:World} {v:Value} {l:List α} {css:List (List Value)} (h1:Each K R w css l) (h2:w.ownsRow B e K.n v l.length css.flatten) (hl:l.length≤140737488355328) (hR:∀ k,v.ownBlock=some k→R k):SlG K R w v l:=by
 refine ⟨css,h1,?_⟩
 obtain ⟨hlen,h3⟩:=h2
 rcases h3 with ⟨rfl,h0⟩ | ⟨g,cap,cur,rfl,hb,hg,hnc,hcm,hcs,ht⟩
 ·obtain rfl:=List.eq_nil_of_length_eq_zero h0
  have hc0:css=[]:=List.eq_nil_of_length_eq_zero (by rw [h1.1];rfl)
  subst hc0
  exact ⟨none,0,rfl,Nat.le_refl _,Nat.zero_le _,Nat.zero_le _,.inl rfl⟩
 ·refine ⟨_,cap,rfl,hnc,hcm,hl,.inr ⟨g,0,rfl,hR g rfl,fun j hj=>?_⟩⟩
  rw [Nat.zero_add,cell_of_row w g j cur e (0,0) hg]
  have e1:(cur.toList.take (l.length*K.n))[j]?=some css.flatten[j]:=by rw [ht];exact List.getElem?_eq_getElem hj
  rw [List.getElem?_take] at e1
  split at e1
  ·simpa using e1
  ·cases e1
end Go.Proofs.YtbijamcoibonkaaDoor
