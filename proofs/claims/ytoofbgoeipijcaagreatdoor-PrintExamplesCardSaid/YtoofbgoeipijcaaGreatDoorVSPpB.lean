/-
 A part.
-/
import Derived.Test.YtoofbgoeipijcaaGreatDoorVB38
namespace Go.Proofs.YtoofbgoeipijcaaGreatDoor
set_option linter.all false
open Go.RowKit Go.Shelf
attribute [local go_sem] Oper.semAt_some
theorem rowF_keep {w w':World} {base e size n:Nat} {v:Value} {xs:List Value} (h:w.ownsRowF base e size v n xs) (hf:∀ k,k<w.heap.size->w'.heap[k]?=w.heap[k]?):w'.ownsRowF base e size v n xs:=by
 obtain ⟨hl,h | ⟨g,cap,cur,fz,hv,hB,hg,hr⟩⟩:=h
 ·exact ⟨hl,.inl h⟩
 ·exact ⟨hl,.inr ⟨g,cap,cur,fz,hv,hB,(hf g (Array.getElem?_eq_some_iff.1 hg).1).trans hg,hr⟩⟩
theorem isb_keep {w w':World} {T e B b:Nat} {bs:List Value} (h:Lib.IsBuilderF T e B b bs w) (hb:Below w.heap.size w w'):Lib.IsBuilderF T e B b bs w':=by
 have key:∀ p,Lib.BuilderAtF T e B b p bs w->Lib.BuilderAtF T e B b p bs w':=fun p h=>by
  obtain ⟨h1,v,h2,h3,h4⟩:=h
  exact ⟨h1,v,(hb.block b (Array.getElem?_eq_some_iff.1 h2).1).trans h2,rowF_keep h3 fun k hk=>hb.block k hk,h4⟩
 exact h.imp (key _) (key _)
theorem isb_lt {w:World} {T e B b:Nat} {bs:List Value} (h:Lib.IsBuilderF T e B b bs w):b<w.heap.size:=h.elim (·.lt) (·.lt)
theorem isb_new (w:World) (T e b:Nat) (hb:w.heap[b]?=some (.cells #[.pointer none,.slice none 0 0] T (0,0))):Lib.IsBuilderF T e b b (Lib.byteCells []) w :=
 .inl ⟨Nat.le_refl _,.slice none 0 0,hb,World.ownsRowF_nil _ _ _ _,by simp [Value.ownBlock]⟩
theorem others_below {e:TypeId} {b:Option Nat} {w w':World} (h:Below w.heap.size w w'):Lib.OthersKept e b w w':=fun k o hk _ _=>(h.block k (Array.getElem?_eq_some_iff.1 hk).1).trans hk
theorem kept_box {e t:TypeId} {b k:Nat} {w w':World} {cs:List Value} (h:Lib.OthersKept e (some b) w w') (hx:BxL t k cs w) (hb:k ≠ b) (ht:t ≠ e):BxL t k cs w':=h k _ hx (fun e=>hb (by injection e)) (fun c fz e=>ht (by cases e;rfl))
theorem bwrite_any (b:Nat) (l r:Bs) (s:ByteArray) (w:World) (hs:s=⟨r.toArray⟩) (h:Lib.IsBuilderF 79 5 b b (Lib.byteCells (l)) w) (hlen:l.length+r.length<=140737488355328) :
  Calls Tryz.prog 46 #[.pointer (some ⟨b,0,none⟩),.string s] w fun e w'=>(∃ v,e=.returned v)/\Lib.IsBuilderF 79 5 b b (Lib.byteCells (l++r)) w'/\Below b w w'/\Lib.OthersKept 5 (some b) w w':=by
 subst hs
 have h1:=Any.Builder_WriteString_k (P:=Tryz.prog) { Tryz.lays156 with } Tryz.Builder_Extra_156 b b (Lib.byteCells l) ⟨r.toArray⟩ w h (by rw [Lib.byteCells_length];exact hlen) (Nat.le_of_lt (isb_lt h))
 refine h1.mono fun e w' h=>⟨⟨_,h.1⟩,?_,h.2.2.1,h.2.2.2⟩
 rw [Lib.byteCells_append]
 exact .inr h.2.1
set_option maxRecDepth 100000 in
set_option maxHeartbeats 2000000 in
theorem put_line (b:Nat) (L ws:List Bs) (v:Value) (w:World) (hb:Lib.IsBuilderF 79 5 b b (Lib.byteCells (textT L)) w) (h:SlG kStr (·<w.heap.size) w v ws) (hlen:(textT (L++[jn ws])).length<=140737488355328) :
  Calls Tryz.prog 45 #[v,.pointer (some ⟨b,0,none⟩)] w fun e w'=>e=.returned (.tuple #[])/\Lib.IsBuilderF 79 5 b b (Lib.byteCells (textT (L++[jn ws]))) w'/\Below b w w'/\Lib.OthersKept 5 (some b) w w':=by
 obtain ⟨p,c,rfl⟩:=h.slc
 have HE:=hid (show textT (L++[jn ws])=textT L++(jn ws++[10]) from by rw [textT_app,textT_one])
 rw [HE.out] at hlen ⊢
 rw [List.length_append,List.length_append] at hlen
 simp only [List.length_cons,List.length_nil] at hlen
 obtain ⟨J,hJ⟩:∃ J,jn ws=J:=⟨_,rfl⟩
 obtain ⟨O,hO⟩:∃ O,textT L=O:=⟨_,rfl⟩
 rw [hJ] at hlen
 rw [hO] at hlen hb
 rw [hJ,hO]
 have HJ:=hid hJ;have HL:=hid hlen;have HS:=hid h;have HB:=hid hb
 have hk1:¬ 9223372036854775807<J.length+1:=by omega
 clear hJ hlen h hb hO HE
 go_enter Tryz.func45,Tryz.ntmps45
 go_wp2_with (first
  | (go_at_call 36;(refine (joinS_any ws _ _ _ HS.out (fun _ h=>h) (by rw [HJ.out];have:=HL.out;omega)).mono ?_);rintro e w1 ⟨rfl,hb1⟩;rw [HJ.out];have HB1:=hid (isb_keep HB.out hb1);have HW1:=hid hb1;clear hb1)
  | (go_at_call 46;(refine (bwrite_any b O (J++[10]) _ _ (by rw [ByteArray.mk_append_mk]) HB1.out (by rw [List.length_append];have:=HL.out;simp only [List.length_cons,List.length_nil];omega)).mono ?_);rintro e w2 ⟨⟨v2,rfl⟩,hb2,hw2,hk2⟩;have HB2:=hid hb2;have HW2:=hid hw2;have HK2:=hid hk2;clear hb2 hw2 hk2))
 go_end0
 exact ⟨rfl,HB2.out,(HW1.mono (Nat.le_of_lt (isb_lt HB.out))).trans HW2.out,(others_below HW1.out).trans HK2.out⟩
end Go.Proofs.YtoofbgoeipijcaaGreatDoor
