/-
 A part.
-/
import Derived.Test.YtoofbgoeipijcaaGreatDoorVSPw
namespace Go.Proofs.YtoofbgoeipijcaaGreatDoor
set_option linter.all false
open Go.RowKit Go.Shelf
attribute [local go_sem] Oper.semAt_some
theorem SlG.box {α:Type} {K:EK α} {R:Nat->Prop} {w:World} {b:Nat} {t:TypeId} {cs:List Value} {x:α} (hb:BxL t b cs w) (hx:K.E R w cs x) (hR:R b):SlG K R w (.slice (some ⟨b,0,none⟩) 1 1) [x]:=by
 refine ⟨[cs],⟨rfl,fun i hi hi'=>?_⟩,_,1,rfl,Nat.le_refl _,by unfold maxLen;omega,by simp,.inr ⟨b,0,rfl,hR,fun j hj=>?_⟩⟩
 ·obtain rfl:i=0:=by simp at hi;omega
  exact hx
 ·rw [Nat.zero_add]
  have hj':j<cs.length:=by simpa using hj
  have:=hb.at j (List.getElem?_eq_getElem hj')
  rw [this]
  simp
end Go.Proofs.YtoofbgoeipijcaaGreatDoor
