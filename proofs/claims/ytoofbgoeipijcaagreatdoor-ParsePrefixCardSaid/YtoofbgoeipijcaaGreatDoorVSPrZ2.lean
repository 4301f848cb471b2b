/-
 A part.
-/
import Derived.Test.YtoofbgoeipijcaaGreatDoorVB43
import Derived.Lib.AppendIntMem
namespace Go.Proofs.YtoofbgoeipijcaaGreatDoor
set_option linter.all false
open Go.RowKit Go.Shelf
attribute [local go_sem] Oper.semAt_some
theorem SlG.ofOwn {α:Type} {K:EK α} {R:Nat->Prop} {B e:Nat} {w:World} {v:Value} {l:List α} {css:List (List Value)} (h1:Each K R w css l) (h2:w.ownsRow B e K.n v l.length css.flatten) (hl:l.length<=140737488355328) (hR:∀ k,v.ownBlock=some k->R k):SlG K R w v l:=by
 refine ⟨css,h1,?_⟩
 obtain ⟨hlen,h3⟩:=h2
 rcases h3 with ⟨rfl,h0⟩ | ⟨g,cap,cur,rfl,hb,hg,hnc,hcm,hcs,ht⟩
 ·obtain rfl:=List.eq_nil_of_length_eq_zero h0
  have hc0:css=[]:=List.eq_nil_of_length_eq_zero (by rw [h1.1];rfl)
  subst hc0
  exact ⟨none,0,rfl,Nat.le_refl _,Nat.zero_le _,Nat.zero_le _,.inl rfl⟩
 ·refine ⟨_,cap,rfl,hnc,hcm,hl,.inr ⟨g,0,rfl,hR g rfl,fun j hj=>?_⟩⟩
  rw [Nat.zero_add,cell_of_row w g j cur e (0,0) hg]
  have e1:(cur.toList.take (l.length*K.n))[j]?=some css.flatten[j]:=by rw [ht];exact List.getElem?_eq_getElem hj
  rw [List.getElem?_take] at e1
  split at e1
  ·simpa using e1
  ·cases e1
end Go.Proofs.YtoofbgoeipijcaaGreatDoor
