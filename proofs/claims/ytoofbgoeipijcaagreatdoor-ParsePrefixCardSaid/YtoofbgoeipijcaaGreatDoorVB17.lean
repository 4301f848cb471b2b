/-
 A part.
-/
import Derived.Test.YtoofbgoeipijcaaGreatDoorVSPkZ
namespace Go.Proofs.YtoofbgoeipijcaaGreatDoor
set_option maxRecDepth 100000
set_option maxHeartbeats 4000000
set_option linter.all false
open Go.RowKit Go.Shelf
attribute [local go_sem] Oper.semAt_some
section
variable {P:Program} {w:World} {ops:Array Oper} {rest:List Oper} {o:Oper} {a:Act} {Q:Exit->Act->World->Prop}
theorem wpList_insS (hg:o.guard=none) (m x v:Operand) (t:TypeId) (hop:o.op=Op.insert t m x v) (kt e:TypeId) (ht:P.underlying t=some (.map kt e)) (hkt:P.underlying kt=some .string) (r:Nat) (d:List Ent) (s:Bs) (val:Value)
  (hm:a.eval m=.map (some r)) (h:MapS w r d) (hx:a.eval x=.string ⟨s.toArray⟩) (hv:a.eval v=val)
  (hK:∀ w',MapS w' r (putS d s val)->w.grownBy w' (some r)->wpList P ops Q rest (a.put o.dst undef) w'):wpList P ops Q (o :: rest) a w:=by
 refine wpList_plain hg fun K' hK'=>?_
 obtain ⟨w',hrun,h1,h2⟩:=run_putS h ht hkt s val
 unfold Oper.wp
 simp [execOp,hop,hm,hx,hv,hrun,Result.andThen]
 exact hK' _ _ (hK w' h1 h2)
end
def insE:List Ent:=[(kStore,.func (.func 184) #[] #[]),(wkIn,.func (.func 185) #[] #[]),(kOut,.func (.func 186) #[] #[]),(kJump,.func (.func 187) #[] #[]),(kIf,.func (.func 188) #[] #[]),(kHalt,.func (.func 189) #[] #[]),(kRet,.func (.func 190) #[] #[])]
def decE:List Ent:=[(kWidth,.agg #[.int .i64 0,.int .i64 0,.func (.func 179) #[] #[]]),(kChan,.agg #[.int .i64 1,.int .i64 1,.func (.func 180) #[] #[]]),(kArray,.agg #[.int .i64 1,.int .i64 2,.func (.func 181) #[] #[]]),(kFunc,.agg #[.int .i64 1,.int .i64 3,.func (.func 182) #[] #[]]),(kMain,.agg #[.int .i64 1,.int .i64 3,.func (.func 183) #[] #[]])]
theorem instructions_any (w:World):Calls Tryz.prog 148 #[] w fun e w'=>∃ r,e=.returned (.map (some r))/\w.heap.size<=r/\MapS w' r insE/\Below w.heap.size w w':=by
 have hmm:=@run_makeMap Tryz.prog
 have h0:MapS (w.alloc (.map #[] 0)) w.heap.size []:=⟨#[],0,by rw [heap_al,if_pos rfl],rfl⟩
 have hb0:Below w.heap.size w (w.alloc (.map #[] 0)):=bA
 go_enter Tryz.func148,Tryz.ntmps148
 go_wp2_with (first
  | ((with_reducible refine wpList_insS rfl (.tmp 1) (.const (.string ⟨#[115,116,111,114,101]⟩)) (.func 184) 195 rfl _ _ Tryz.underlying195 Tryz.underlying9 w.heap.size [] [115,116,111,114,101] (.func (.func 184) #[] #[]) rfl h0 rfl rfl ?_);intro w1 hm hg;have h1:MapS w1 w.heap.size [([115,116,111,114,101],.func (.func 184) #[] #[])]:=hm;have hb1:=hb0.grown hg hb0.size (fun k e=>by cases e;exact Nat.le_refl _);clear hm hg h0 hb0)
  | ((with_reducible refine wpList_insS rfl (.tmp 1) (.const (.string ⟨#[105,110]⟩)) (.func 185) 195 rfl _ _ Tryz.underlying195 Tryz.underlying9 w.heap.size [([115,116,111,114,101],.func (.func 184) #[] #[])] [105,110] (.func (.func 185) #[] #[]) rfl h1 rfl rfl ?_);intro w2 hm hg;have h2:MapS w2 w.heap.size [([115,116,111,114,101],.func (.func 184) #[] #[]),([105,110],.func (.func 185) #[] #[])]:=hm;have hb2:=hb1.grown hg hb1.size (fun k e=>by cases e;exact Nat.le_refl _);clear hm hg h1 hb1)
  | ((with_reducible refine wpList_insS rfl (.tmp 1) (.const (.string ⟨#[111,117,116]⟩)) (.func 186) 195 rfl _ _ Tryz.underlying195 Tryz.underlying9 w.heap.size [([115,116,111,114,101],.func (.func 184) #[] #[]),([105,110],.func (.func 185) #[] #[])] [111,117,116] (.func (.func 186) #[] #[]) rfl h2 rfl rfl ?_);intro w3 hm hg;have h3:MapS w3 w.heap.size [([115,116,111,114,101],.func (.func 184) #[] #[]),([105,110],.func (.func 185) #[] #[]),([111,117,116],.func (.func 186) #[] #[])]:=hm;have hb3:=hb2.grown hg hb2.size (fun k e=>by cases e;exact Nat.le_refl _);clear hm hg h2 hb2)
  | ((with_reducible refine wpList_insS rfl (.tmp 1) (.const (.string ⟨#[106,117,109,112]⟩)) (.func 187) 195 rfl _ _ Tryz.underlying195 Tryz.underlying9 w.heap.size [([115,116,111,114,101],.func (.func 184) #[] #[]),([105,110],.func (.func 185) #[] #[]),([111,117,116],.func (.func 186) #[] #[])] [106,117,109,112] (.func (.func 187) #[] #[]) rfl h3 rfl rfl ?_);intro w4 hm hg;have h4:MapS w4 w.heap.size [([115,116,111,114,101],.func (.func 184) #[] #[]),([105,110],.func (.func 185) #[] #[]),([111,117,116],.func (.func 186) #[] #[]),([106,117,109,112],.func (.func 187) #[] #[])]:=hm;have hb4:=hb3.grown hg hb3.size (fun k e=>by cases e;exact Nat.le_refl _);clear hm hg h3 hb3)
  | ((with_reducible refine wpList_insS rfl (.tmp 1) (.const (.string ⟨#[105,102]⟩)) (.func 188) 195 rfl _ _ Tryz.underlying195 Tryz.underlying9 w.heap.size [([115,116,111,114,101],.func (.func 184) #[] #[]),([105,110],.func (.func 185) #[] #[]),([111,117,116],.func (.func 186) #[] #[]),([106,117,109,112],.func (.func 187) #[] #[])] [105,102] (.func (.func 188) #[] #[]) rfl h4 rfl rfl ?_);intro w5 hm hg;have h5:MapS w5 w.heap.size [([115,116,111,114,101],.func (.func 184) #[] #[]),([105,110],.func (.func 185) #[] #[]),([111,117,116],.func (.func 186) #[] #[]),([106,117,109,112],.func (.func 187) #[] #[]),([105,102],.func (.func 188) #[] #[])]:=hm;have hb5:=hb4.grown hg hb4.size (fun k e=>by cases e;exact Nat.le_refl _);clear hm hg h4 hb4)
  | ((with_reducible refine wpList_insS rfl (.tmp 1) (.const (.string ⟨#[104,97,108,116]⟩)) (.func 189) 195 rfl _ _ Tryz.underlying195 Tryz.underlying9 w.heap.size [([115,116,111,114,101],.func (.func 184) #[] #[]),([105,110],.func (.func 185) #[] #[]),([111,117,116],.func (.func 186) #[] #[]),([106,117,109,112],.func (.func 187) #[] #[]),([105,102],.func (.func 188) #[] #[])] [104,97,108,116] (.func (.func 189) #[] #[]) rfl h5 rfl rfl ?_);intro w6 hm hg;have h6:MapS w6 w.heap.size [([115,116,111,114,101],.func (.func 184) #[] #[]),([105,110],.func (.func 185) #[] #[]),([111,117,116],.func (.func 186) #[] #[]),([106,117,109,112],.func (.func 187) #[] #[]),([105,102],.func (.func 188) #[] #[]),([104,97,108,116],.func (.func 189) #[] #[])]:=hm;have hb6:=hb5.grown hg hb5.size (fun k e=>by cases e;exact Nat.le_refl _);clear hm hg h5 hb5)
  | ((with_reducible refine wpList_insS rfl (.tmp 1) (.const (.string ⟨#[114,101,116]⟩)) (.func 190) 195 rfl _ _ Tryz.underlying195 Tryz.underlying9 w.heap.size [([115,116,111,114,101],.func (.func 184) #[] #[]),([105,110],.func (.func 185) #[] #[]),([111,117,116],.func (.func 186) #[] #[]),([106,117,109,112],.func (.func 187) #[] #[]),([105,102],.func (.func 188) #[] #[]),([104,97,108,116],.func (.func 189) #[] #[])] [114,101,116] (.func (.func 190) #[] #[]) rfl h6 rfl rfl ?_);intro w7 hm hg;have h7:MapS w7 w.heap.size [([115,116,111,114,101],.func (.func 184) #[] #[]),([105,110],.func (.func 185) #[] #[]),([111,117,116],.func (.func 186) #[] #[]),([106,117,109,112],.func (.func 187) #[] #[]),([105,102],.func (.func 188) #[] #[]),([104,97,108,116],.func (.func 189) #[] #[]),([114,101,116],.func (.func 190) #[] #[])]:=hm;have hb7:=hb6.grown hg hb6.size (fun k e=>by cases e;exact Nat.le_refl _);clear hm hg h6 hb6)
  )
 go_ret
 exact ⟨_,rfl,Nat.le_refl _,h7,hb7⟩
theorem declarations_any (w:World):Calls Tryz.prog 145 #[] w fun e w'=>∃ r,e=.returned (.map (some r))/\w.heap.size<=r/\MapS w' r decE/\Below w.heap.size w w':=by
 have hmm:=@run_makeMap Tryz.prog
 have h0:MapS (w.alloc (.map #[] 0)) w.heap.size []:=⟨#[],0,by rw [heap_al,if_pos rfl],rfl⟩
 have hb0:Below w.heap.size w (w.alloc (.map #[] 0)):=bA
 go_enter Tryz.func145,Tryz.ntmps145
 go_wp2_with (first
  | ((with_reducible refine wpList_insS rfl (.tmp 1) (.const (.string ⟨#[119,105,100,116,104]⟩)) (.tmp 2) 189 rfl _ _ Tryz.underlying189 Tryz.underlying9 w.heap.size [] [119,105,100,116,104] (.agg #[.int .i64 0,.int .i64 0,.func (.func 179) #[] #[]]) rfl h0 rfl rfl ?_);intro w1 hm hg;have h1:MapS w1 w.heap.size [([119,105,100,116,104],.agg #[.int .i64 0,.int .i64 0,.func (.func 179) #[] #[]])]:=hm;have hb1:=hb0.grown hg hb0.size (fun k e=>by cases e;exact Nat.le_refl _);clear hm hg h0 hb0)
  | ((with_reducible refine wpList_insS rfl (.tmp 1) (.const (.string ⟨#[99,104,97,110]⟩)) (.tmp 3) 189 rfl _ _ Tryz.underlying189 Tryz.underlying9 w.heap.size [([119,105,100,116,104],.agg #[.int .i64 0,.int .i64 0,.func (.func 179) #[] #[]])] [99,104,97,110] (.agg #[.int .i64 1,.int .i64 1,.func (.func 180) #[] #[]]) rfl h1 rfl rfl ?_);intro w2 hm hg;have h2:MapS w2 w.heap.size [([119,105,100,116,104],.agg #[.int .i64 0,.int .i64 0,.func (.func 179) #[] #[]]),([99,104,97,110],.agg #[.int .i64 1,.int .i64 1,.func (.func 180) #[] #[]])]:=hm;have hb2:=hb1.grown hg hb1.size (fun k e=>by cases e;exact Nat.le_refl _);clear hm hg h1 hb1)
  | ((with_reducible refine wpList_insS rfl (.tmp 1) (.const (.string ⟨#[97,114,114,97,121]⟩)) (.tmp 4) 189 rfl _ _ Tryz.underlying189 Tryz.underlying9 w.heap.size [([119,105,100,116,104],.agg #[.int .i64 0,.int .i64 0,.func (.func 179) #[] #[]]),([99,104,97,110],.agg #[.int .i64 1,.int .i64 1,.func (.func 180) #[] #[]])] [97,114,114,97,121] (.agg #[.int .i64 1,.int .i64 2,.func (.func 181) #[] #[]]) rfl h2 rfl rfl ?_);intro w3 hm hg;have h3:MapS w3 w.heap.size [([119,105,100,116,104],.agg #[.int .i64 0,.int .i64 0,.func (.func 179) #[] #[]]),([99,104,97,110],.agg #[.int .i64 1,.int .i64 1,.func (.func 180) #[] #[]]),([97,114,114,97,121],.agg #[.int .i64 1,.int .i64 2,.func (.func 181) #[] #[]])]:=hm;have hb3:=hb2.grown hg hb2.size (fun k e=>by cases e;exact Nat.le_refl _);clear hm hg h2 hb2)
  | ((with_reducible refine wpList_insS rfl (.tmp 1) (.const (.string ⟨#[102,117,110,99]⟩)) (.tmp 5) 189 rfl _ _ Tryz.underlying189 Tryz.underlying9 w.heap.size [([119,105,100,116,104],.agg #[.int .i64 0,.int .i64 0,.func (.func 179) #[] #[]]),([99,104,97,110],.agg #[.int .i64 1,.int .i64 1,.func (.func 180) #[] #[]]),([97,114,114,97,121],.agg #[.int .i64 1,.int .i64 2,.func (.func 181) #[] #[]])] [102,117,110,99] (.agg #[.int .i64 1,.int .i64 3,.func (.func 182) #[] #[]]) rfl h3 rfl rfl ?_);intro w4 hm hg;have h4:MapS w4 w.heap.size [([119,105,100,116,104],.agg #[.int .i64 0,.int .i64 0,.func (.func 179) #[] #[]]),([99,104,97,110],.agg #[.int .i64 1,.int .i64 1,.func (.func 180) #[] #[]]),([97,114,114,97,121],.agg #[.int .i64 1,.int .i64 2,.func (.func 181) #[] #[]]),([102,117,110,99],.agg #[.int .i64 1,.int .i64 3,.func (.func 182) #[] #[]])]:=hm;have hb4:=hb3.grown hg hb3.size (fun k e=>by cases e;exact Nat.le_refl _);clear hm hg h3 hb3)
  | ((with_reducible refine wpList_insS rfl (.tmp 1) (.const (.string ⟨#[109,97,105,110]⟩)) (.tmp 6) 189 rfl _ _ Tryz.underlying189 Tryz.underlying9 w.heap.size [([119,105,100,116,104],.agg #[.int .i64 0,.int .i64 0,.func (.func 179) #[] #[]]),([99,104,97,110],.agg #[.int .i64 1,.int .i64 1,.func (.func 180) #[] #[]]),([97,114,114,97,121],.agg #[.int .i64 1,.int .i64 2,.func (.func 181) #[] #[]]),([102,117,110,99],.agg #[.int .i64 1,.int .i64 3,.func (.func 182) #[] #[]])] [109,97,105,110] (.agg #[.int .i64 1,.int .i64 3,.func (.func 183) #[] #[]]) rfl h4 rfl rfl ?_);intro w5 hm hg;have h5:MapS w5 w.heap.size [([119,105,100,116,104],.agg #[.int .i64 0,.int .i64 0,.func (.func 179) #[] #[]]),([99,104,97,110],.agg #[.int .i64 1,.int .i64 1,.func (.func 180) #[] #[]]),([97,114,114,97,121],.agg #[.int .i64 1,.int .i64 2,.func (.func 181) #[] #[]]),([102,117,110,99],.agg #[.int .i64 1,.int .i64 3,.func (.func 182) #[] #[]]),([109,97,105,110],.agg #[.int .i64 1,.int .i64 3,.func (.func 183) #[] #[]])]:=hm;have hb5:=hb4.grown hg hb4.size (fun k e=>by cases e;exact Nat.le_refl _);clear hm hg h4 hb4)
  )
 go_ret
 exact ⟨_,rfl,Nat.le_refl _,h5,hb5⟩
theorem suf_colon (s:Bs):Lib.hasSuffix s [58]=decide (s.getLast?=some 58):=by
 rcases List.eq_nil_or_concat s with rfl | ⟨t,c,rfl⟩
 ·rfl
 ·rw [Bool.eq_iff_iff]
  simp only [Lib.hasSuffix,List.isSuffixOf_iff_suffix,decide_eq_true_eq,List.concat_eq_append,List.getLast?_append,List.getLast?_singleton,Option.some_or,Option.some.injEq]
  constructor
  ·rintro ⟨q,hq⟩
   have:=congrArg List.getLast? hq
   simpa using this.symm
  ·rintro rfl;exact ⟨t,rfl⟩
theorem trim_colon (s:Bs) (h:s.getLast?=some 58):Lib.trimSuffix s [58]=s.dropLast:=by
 unfold Lib.trimSuffix
 rw [suf_colon,decide_eq_true h,if_pos rfl,List.dropLast_eq_take];rfl
theorem plabel_any (s:Bs) (hs:s.length<=65537) (w:World):Calls Tryz.prog 149 #[.string ⟨s.toArray⟩] w fun e w'=>∃ t,e=.returned (.tuple #[.string ⟨t.toArray⟩,.bool (labelP s).isSome])/\(∀ u,labelP s=some u->t=u)/\Below w.heap.size w w':=by
 obtain ⟨t,ht⟩:∃ t,Lib.trimSuffix s [58]=t:=⟨_,rfl⟩
 obtain ⟨bi,hbi⟩:∃ b,Lib.hasSuffix s [58]=b:=⟨_,rfl⟩
 have HC:=hid (show Calls Tryz.prog 191 #[.string ⟨s.toArray⟩,.string ⟨#[58]⟩] w (fun e w'=>e=.returned (.tuple #[.string ⟨t.toArray⟩,.bool bi])/\w'=w) from by
  have h:=Tryz.strings_CutSuffix ⟨s.toArray⟩ ⟨#[58]⟩ w (by rw [size_mk];omega)
  simp only [show (⟨s.toArray⟩:ByteArray).data.toList=s from rfl,show (⟨#[58]⟩:ByteArray).data.toList=[58] from rfl,ht,hbi] at h
  exact h)
 have HQ:=hid (show bi=decide (s.getLast?=some 58) from by rw [<- hbi,suf_colon])
 have HT:=hid (show s.getLast?=some 58->t=s.dropLast from fun h=>by rw [<- ht,trim_colon s h])
 clear ht hbi hs
 go_enter Tryz.func149,Tryz.ntmps149
 cases bi
 ·go_wp2_with (go_at_call 191;(with_reducible refine HC.out.mono ?_);rintro e w1 ⟨rfl,rfl⟩)
  refine bodyPost_ret (v := .tuple #[.string ⟨t.toArray⟩,.bool false]) (by simp [results,Tryz.results149,go_sem]) rfl ?_
  have hn:labelP s=none:=by unfold labelP;rw [if_neg (fun h=>by have:=HQ.out;rw [decide_eq_true h.1] at this;cases this)]
  exact ⟨t,by rw [hn];rfl,fun u hu=>(by rw [hn] at hu;cases hu),Below.refl _ _⟩
 ·have hl:s.getLast?=some 58:=by have:=HQ.out;simpa using this.symm
  have HE:=hid (HT.out hl)
  have HL:=hid hl
  clear hl
  obtain ⟨bn,hbn⟩:∃ b,namedB t=b:=⟨_,rfl⟩
  have HBN:=hid hbn
  have HNM:=hid (show ∀ W,Calls Tryz.prog 151 #[.string ⟨t.toArray⟩] W (fun e w'=>e=.returned (.bool bn)/\Below W.heap.size W w') from fun W=>by have h:=pnamed_any t W;rw [hbn] at h;exact h)
  clear hbn
  go_wp2_with (first
   | (go_at_call 191;(with_reducible refine HC.out.mono ?_);rintro e w1 ⟨rfl,rfl⟩)
   | (go_at_call 151;(with_reducible refine (HNM.out _).mono ?_);rintro e w2 ⟨rfl,hb⟩;have HB:=hid hb;clear hb))
  refine bodyPost_ret (v := .tuple #[.string ⟨t.toArray⟩,.bool bn]) (by simp [results,Tryz.results149,go_sem]) rfl ?_
  have hlb:labelP s=if bn=true then some t else none:=by
   unfold labelP
   rw [<- HE.out,HBN.out]
   cases bn
   ·rw [if_neg (by simp)];rfl
   ·rw [if_pos ⟨HL.out,rfl⟩];rfl
  exact ⟨t,(by rw [hlb];cases bn <;> rfl),fun u hu=>(by rw [hlb] at hu;cases bn <;> simp at hu;exact hu),HB.out⟩
def CPtr (b:Nat) (O:Nat->Value) (S:PS) (p:Addr):Prop:=(S.inn=1/\∃ g,(O 3).ownBlock=some g/\p=⟨g,(S.p.funcs.length - 1)*5+2,none⟩)\/(S.inn ≠ 1/\p=⟨b,4,none⟩)
def cslot (S:PS):Nat:=if S.inn=1 then 20 else 4
theorem owns_at {base e sz n:Nat} {w:World} {v:Value} {xs:List Value} (h:w.ownsRow base e sz v n xs) {g:Nat} (hv:v.ownBlock=some g) {i:Nat} {u:Value} (hx:xs[i]?=some u):w.cell? ⟨g,i,none⟩=some u/\w.frozen? ⟨g,i,none⟩=false:=by
 obtain ⟨hl,h2⟩:=h
 rcases h2 with ⟨rfl,_⟩ | ⟨g',cap,cur,rfl,hb,hg,hnc,hcm,hcs,ht⟩
 ·cases hv
 ·cases hv
  refine ⟨?_,Soft.frozen ⟨cur,e,hg⟩⟩
  rw [cell_of_row w g' i cur e (0,0) hg]
  have e1:(cur.toList.take (n*sz))[i]?=some u:=by rw [ht];exact hx
  rw [List.getElem?_take] at e1
  split at e1
  ·simpa using e1
  ·cases e1
theorem owns_put {base e sz n:Nat} {w:World} {v:Value} {xs:List Value} (h:w.ownsRow base e sz v n xs) {g:Nat} (hv:v.ownBlock=some g) (i:Nat) (u:Value):(w.setCell ⟨g,i,none⟩ u).ownsRow base e sz v n (xs.set i u):=by
 obtain ⟨hl,h2⟩:=h
 rcases h2 with ⟨rfl,_⟩ | ⟨g',cap,cur,rfl,hb,hg,hnc,hcm,hcs,ht⟩
 ·cases hv
 ·cases hv
  refine ⟨by rw [List.length_set];exact hl,.inr ⟨g',cap,cur.setIfInBounds i u,rfl,hb,heap_setCell_same _ _ _ _ _ _ hg,hnc,hcm,by rw [Array.size_setIfInBounds];exact hcs,?_⟩⟩
  rw [Array.toList_setIfInBounds,List.take_set,ht]
theorem Each.app {α:Type} {K:EK α} {R:Nat->Prop} {w:World} {css:List (List Value)} {l:List α} (h:Each K R w css l):css.flatten.length=l.length*K.n:=by rw [h.lens.len,h.1]
section
variable {B b:Nat} {O:Nat->Value} {pw:Option Addr} {cw:Nat} {ws:List Wd} {S:PS} {k:Nat} {w:World}
theorem Pm.codeAt (h:Pm B b O pw cw ws S k w) {p:Addr} (hc:CPtr b O S p):w.cell? p=some (O (cslot S))/\w.frozen? p=false/\GR kIn (Fin' b O w) b 41 w (O (cslot S)) (codeP S):=by
 rcases hc with ⟨hi,g,hg,rfl⟩ | ⟨hi,rfl⟩
 ·obtain ⟨css,h1,h2⟩:=h.rs.fu
  rcases h2 with ⟨_,cs0,gs,f,pv,e1,e2,g1,g2,g3⟩ | ⟨e,_,_⟩
  ·have hs:cslot S=20:=if_pos hi
   have hcp:codeP S=f.code:=by unfold codeP;rw [if_pos hi,e1];simp
   rw [hs,hcp]
   have hl:=g1.app
   have hx:css.flatten[(S.p.funcs.length - 1)*5+2]?=some (O 20):=by
    rw [e2,List.flatten_append,e1,List.length_append,List.length_singleton,Nat.add_sub_cancel,List.getElem?_append_right (by rw [hl];show gs.length*5<=_;omega),hl]
    show (_:List Value)[gs.length*5+2 - gs.length*5]?=_
    rw [Nat.add_sub_cancel_left];rfl
   obtain ⟨c1,c2⟩:=owns_at h1 hg hx
   exact ⟨c1,c2,g3⟩
  ·exact absurd hi e
 ·have hs:cslot S=4:=if_neg hi
  have hcp:codeP S=S.p.main:=by unfold codeP;rw [if_neg hi]
  rw [hs,hcp]
  exact ⟨h.rd.box.at 4 rfl,h.rd.box.fr 4,h.rs.mn⟩
end
section
variable {B b:Nat} {O:Nat->Value} {pw:Option Addr} {cw:Nat} {ws:List Wd} {S:PS} {k:Nat} {w w8 w9:World} {v':Value} {x:In} {p:Addr}
theorem GR.poke {α:Type} {K:EK α} {b e:Nat} {O:Nat->Value} {v:Value} {l:List α} {g i:Nat} {u:Value} (h:GR K (Fin' b O w) b e w v l) (hf:∀ j,Fin' b O w j->j ≠ g) (hv:v.ownBlock ≠ some g):GR K (Fin' b O (w.setCell ⟨g,i,none⟩ u)) b e (w.setCell ⟨g,i,none⟩ u) v l :=
 h.keep (fun j hj=>⟨hj.size (by simp only [World.size_setCell];exact Nat.le_refl _),heap_ot (hf j hj) _⟩) fun j hj=>heap_ot (by rintro rfl;exact hv hj) _
theorem Pm.codePut (h:Pm B b O pw cw ws S k w) (hc:CPtr b O S p) (hb:Below w.heap.size w w8) (hg:w8.grownBy w9 (O (cslot S)).ownBlock) (hm:Moved w8 (O (cslot S)) v') (hgr:GR kIn (Fin' b O w8) b 41 w9 v' (codeP S++[x])) :
  Pm B b (upd O (cslot S) v') pw cw ws { S with p:=putCode S (codeP S++[x]) } k (w9.setCell p v'):=by
 have hv:∀ i,v'.ownBlock=some i->i<w9.heap.size:=fun i hi=>(hgr.lt i hi).2
 rcases hc with ⟨hi,g,hgo,rfl⟩ | ⟨hi,rfl⟩
 ·have hs:cslot S=20:=if_pos hi
  rw [hs] at hg hm ⊢
  obtain ⟨h1,h2,h3,h4⟩:=h.grow (j:=20) (c:=0) hb hg hm hv
  have hst:Step b O 20 w w9:=⟨hg.os.trans hb.os,hg.tape.trans hb.tape,hg.output.trans hb.output,Nat.le_trans hb.size hg.size,fun i hi hib hne=>(hg.block i (by have:=hb.size;omega) fun e=>hne e.symm).trans (hb.block i hi)⟩
  have hm':Moved w (O 20) v':=h3
  have how:Owns b (upd O 20 v') w9:=h.rs.ow.moved hm' hst.size h.lt hv
  have hgb:=(h.rs.ow.lt 3 g hgo)
  have hg3:(upd O 20 v' 3).ownBlock=some g:=by rw [upd_ne O v' (by decide)];exact hgo
  have hF:∀ j,Fin' b (upd O 20 v') w9 j->j ≠ g:=fun j hj e=>hj.2.2 3 (e ▸ hg3)
  have hne:∀ i,i ≠ 3->(upd O 20 v' i).ownBlock ≠ some g:=fun i hi e=>how.ne i 3 g hi e hg3
  have hsz:w9.heap.size<=(w9.setCell ⟨g,(S.p.funcs.length - 1)*5+2,none⟩ v').heap.size:=by simp only [World.size_setCell];exact Nat.le_refl _
  obtain ⟨css,f1,f2⟩:=h.rs.fu
  rcases f2 with ⟨_,cs0,gs,f,pv,e1,e2,g1,g2,g3⟩ | ⟨e,_,_⟩
  ·have hpc:putCode S (codeP S++[x])={ S.p with funcs:=gs++[{ f with code:=codeP S++[x] }] }:=by
    unfold putCode;rw [if_pos hi,e1];simp
   rw [hpc]
   have hl:=g1.app
   have hk:∀ j,Fin' b O w j->Fin' b (upd O 20 v') (w9.setCell ⟨g,(S.p.funcs.length - 1)*5+2,none⟩ v') j/\(w9.setCell ⟨g,(S.p.funcs.length - 1)*5+2,none⟩ v').heap[j]?=w.heap[j]?:=fun j hj=>by
    have hj9:=hj.moved hm' hst.size
    exact ⟨hj9.size hsz,by rw [heap_ot (hF j hj9)];exact hst.block j hj.1 hj.2.1 (hj.2.2 20)⟩
   refine ⟨⟨(((h.rd.box.bel hb).keep (hg.block b (Nat.lt_of_lt_of_le h.lt hb.size) fun e=>h.own 20 e.symm)).keep (heap_ot (by omega) _)),?_⟩,⟨how.size hsz,(h.rs.ch.stay h.rs.ow hst hm' (by decide)).poke hF (hne 1 (by decide)),(h.rs.ar.stay h.rs.ow hst hm' (by decide)).poke hF (hne 2 (by decide)),?_,(h.rs.mn.stay h.rs.ow hst hm' (by decide)).poke hF (hne 4 (by decide)),(h.rs.an.stay h.rs.ow hst hm' (by decide)).poke hF (hne 7 (by decide)),?_,(h.rs.lb.stay h.rs.ow hst hm' (by decide)).poke hF (hne 9 (by decide)),(h.rs.st.stay h.rs.ow hst hm' (by decide)).poke hF (hne 10 (by decide))⟩,h.ge,h.le⟩
   ·exact h.rd.row.keep fun i hi=>⟨hi,by rw [heap_ot (by omega)];exact hst.block i (Nat.lt_trans hi h.lt) (Nat.ne_of_lt hi) fun e=>by have:=(h.rs.ow.lt 20 i e).1;omega⟩
   ·refine ⟨cs0++[[.string ⟨f.nm.toArray⟩,pv,v',.int .i64 f.pos.1,.int .i64 f.pos.2]],?_,.inl ⟨hi,cs0,gs,_,pv,rfl,by rw [upd_eq],g1.keep hk,g2.keep hk,?_⟩⟩
    ·rw [upd_ne O v' (by decide)]
     have h5:=owns_put (owns_keepG f1 (fun j hj=>hst.block j (h.rs.ow.lt 3 j hj).2 (by have:=(h.rs.ow.lt 3 j hj).1;omega) (h.rs.ow.ne 3 20 j (by decide) hj))) hgo ((S.p.funcs.length - 1)*5+2) v'
     have hset:css.flatten.set ((S.p.funcs.length - 1)*5+2) v'=(cs0++[[.string ⟨f.nm.toArray⟩,pv,v',.int .i64 f.pos.1,.int .i64 f.pos.2]]).flatten:=by
      rw [e2,List.flatten_append,List.flatten_append,e1,List.length_append,List.length_singleton,Nat.add_sub_cancel,List.set_append_right _ _ (by rw [hl];show gs.length*5<=_;omega),hl]
      show cs0.flatten++List.set _ (gs.length*5+2 - gs.length*5) v'=_
      rw [Nat.add_sub_cancel_left];rfl
     rw [hset] at h5
     show World.ownsRow _ _ _ _ _ (gs++[_]).length _
     simp only [e1,List.length_append,List.length_singleton] at h5 ⊢
     exact h5
    ·rw [upd_eq]
     exact hgr.keep (fun j hj=>by
      have hj9:Fin' b (upd O 20 v') w9 j:=hj.moved hm hg.size
      exact ⟨hj9.size hsz,heap_ot (hF j hj9) _⟩) fun j hj=>heap_ot (fun e=>hne 20 (by decide) (by rw [upd_eq,<- e];exact hj)) _
   ·have hnm:(gs++[{ f with code:=codeP S++[x] }]).map Fu.nm=S.p.funcs.map Fu.nm:=by rw [e1];simp
    show GR kStr _ b _ _ _ ((gs++[{ f with code:=codeP S++[x] }]).map Fu.nm)
    rw [hnm]
    exact (h.rs.fn.stay h.rs.ow hst hm' (by decide)).poke hF (hne 8 (by decide))
  ·exact absurd hi e
 ·have hs:cslot S=4:=if_neg hi
  rw [hs] at hg hm ⊢
  obtain ⟨h1,h2,h3,h4⟩:=h.grow (j:=4) (c:=4) hb hg hm hv
  have hpc:putCode S (codeP S++[x])={ S.p with main:=codeP S++[x] }:=if_neg hi
  rw [hpc]
  refine ⟨⟨((h.rd.box.bel hb).keep (hg.block b (Nat.lt_of_lt_of_le h.lt hb.size) fun e=>h.own 4 e.symm)).set 4 v',h4⟩,⟨h2,h.rs.ch.stay h.rs.ow h1 h3 (by decide),h.rs.ar.stay h.rs.ow h1 h3 (by decide),h.rs.fu.stay h.rs.ow h1 h3 (by decide) (by decide),?_,h.rs.an.stay h.rs.ow h1 h3 (by decide),h.rs.fn.stay h.rs.ow h1 h3 (by decide),h.rs.lb.stay h.rs.ow h1 h3 (by decide),h.rs.st.stay h.rs.ow h1 h3 (by decide)⟩,h.ge,h.le⟩
  rw [upd_eq]
  have hnb:=GR.neb hgr h2 (upd_eq O 4 v')
  exact hgr.keep (fun j hj=>⟨hj.moved hm (by simp only [World.size_setCell];exact hg.size),heap_ot hj.2.1 _⟩) fun j hj=>heap_ot (by rintro rfl;exact hnb hj) _
end
theorem pcode_any {B b:Nat} {O:Nat->Value} {pw:Option Addr} {cw:Nat} {ws:List Wd} {S:PS} {k:Nat} {w:World} (hp:Pm B b O pw cw ws S k w) (hok:SOk S):Calls Tryz.prog 147 #[.pointer (some ⟨b,0,none⟩)] w fun e w'=>∃ p,e=.returned (.pointer (some p))/\CPtr b O S p/\Below w.heap.size w w':=by
 have HPM:=hid hp;have HOK:=hid hok
 have c11:=hp.rd.box.at 11 rfl
 clear hp hok
 by_cases hi:S.inn=1
 ·have HI:=hid hi
  have g1:((S.inn:Int) == 1)=true:=by rw [hi];rfl
  obtain ⟨css,f1,f2⟩:=HPM.rs.fu
  rcases f2 with ⟨_,cs0,gs,f,pv,e1,_,_,_,_⟩ | ⟨e,_,_⟩
  ·obtain ⟨m,hm⟩:∃ m,gs.length=m:=⟨_,rfl⟩
   have hl:S.p.funcs.length=m+1:=by rw [e1,List.length_append,hm];rfl
   rw [hl] at f1
   obtain ⟨_,f3⟩:=f1
   rcases f3 with ⟨_,h0⟩ | ⟨g,cap,cur,hO,_,_,hnc,hcm,_⟩
   ·omega
   ·have HO:=hid hO
    have HL:=hid hl
    have HM32:=hid (show m+1<=32 from by rw [<- hl];exact HOK.fu)
    clear hi hO hl hm e1 hnc hcm
    go_enter Tryz.func147,Tryz.ntmps147
    go_upto_region 2 with fail
    have hS:(fun W=>W.cell? ⟨b,3,none⟩=some (.slice (some ⟨g,0,none⟩) (m+1) cap)) w.drew:=by rw [<- HO.out];exact HPM.rd.box.at 3 rfl
    have wk:IntKind.i64.wrap (m:Int)=(m:Int):=IntWalk.i64_in _ (by have:=HM32.out;omega)
    have hmlt:(m:Int)<(m:Int)+1:=by omega
    have hFa:=fT
    refine rgN (fun W=>W.cell? ⟨b,3,none⟩=some (.slice (some ⟨g,0,none⟩) (m+1) cap)) 15 (by kernel_rfl) ?_
    simp only [zP,Nat.reduceAdd]
    iterate 15 (refine nxW (v:=?_) 15 hS ?_ ?_;rotate_left;(focus rintro w' s0;go_simp;try rfl);simp only [aP])
    refine wpHJ_done (by kernel_rfl) ?_ _
    simp only [onlyN,Exit.then]
    clear hFa
    clear hS wk c11 g1 hmlt
    go_wp2_with fail
    go_ret
    exact ⟨_,rfl,.inl ⟨HI.out,g,by rw [HO.out];rfl,by rw [HL.out,Nat.add_sub_cancel]⟩,(Below.refl _ _).drew⟩
  ·exact absurd hi e
 ·have HI:=hid hi
  have g1:((S.inn:Int) == 1)=false:=by simp;omega
  clear hi
  go_enter Tryz.func147,Tryz.ntmps147
  go_wp2_with fail
  go_ret
  exact ⟨_,rfl,.inr ⟨HI.out,rfl⟩,Below.refl _ _⟩
section
variable {B b:Nat} {O:Nat->Value} {pw:Option Addr} {cw:Nat} {ws:List Wd} {S:PS} {k:Nat} {w w':World}
abbrev ownV (q:Nat):Value := .slice (some ⟨q,0,none⟩) 1 1
theorem PsR.free (h:PsR b w O S) {j:Nat} {v':Value} (ho:Owns b (upd O j v') w') (hs:Step b O j w w') (hm:Moved w (O j) v') (hj:j=30\/j=31):PsR b w' (upd O j v') S:=by
 rcases hj with rfl | rfl
 all_goals exact ⟨ho,h.ch.stay h.ow hs hm (by decide),h.ar.stay h.ow hs hm (by decide),h.fu.stay h.ow hs hm (by decide) (by decide),h.mn.stay h.ow hs hm (by decide),h.an.stay h.ow hs hm (by decide),h.fn.stay h.ow hs hm (by decide),h.lb.stay h.ow hs hm (by decide),h.st.stay h.ow hs hm (by decide)⟩
theorem Pm.box (h:Pm B b O pw cw ws S k w) (o:Obj):Pm B b (upd O 30 (ownV w.heap.size)) pw cw ws S k (w.alloc o):=by
 have hb:Below w.heap.size w (w.alloc o):=bA
 have hm:Moved w (O 30) (ownV w.heap.size) := .inr ⟨_,rfl,Nat.le_refl _⟩
 have hs:Step b O 30 w (w.alloc o):=⟨hb.os,hb.tape,hb.output,hb.size,fun i hi _ _=>hb.block i hi⟩
 have ho:=h.rs.ow.moved hm hb.size h.lt (fun i hi=>by injection hi with hi;subst hi;show w.heap.size<_;rw [sA];omega)
 exact ⟨⟨h.rd.box.bel hb,(h.rd.below hb).row⟩,h.rs.free ho hs hm (.inl rfl),h.ge,h.le⟩
theorem Pm.unbox (h:Pm B b O pw cw ws S k w):Pm B b (upd O 30 (.slice none 0 0)) pw cw ws S k w:=by
 have hw:∀ i,(upd O 30 (.slice none 0 0) i).ownBlock=some i->True:=fun _ _=>trivial
 have ho:Owns b (upd O 30 (.slice none 0 0)) w:=⟨fun i j q hij hi=>by
   by_cases h1:i=30
   ·subst h1;rw [upd_eq] at hi;cases hi
   ·rw [upd_ne O _ h1] at hi
    by_cases h2:j=30
    ·subst h2;rw [upd_eq];intro e;cases e
    ·rw [upd_ne O _ h2];exact h.rs.ow.ne i j q hij hi,fun i q hi=>by
   by_cases h1:i=30
   ·subst h1;rw [upd_eq] at hi;cases hi
   ·rw [upd_ne O _ h1] at hi;exact h.rs.ow.lt i q hi⟩
 have hF:∀ q,Fin' b O w q->Fin' b (upd O 30 (.slice none 0 0)) w q/\w.heap[q]?=w.heap[q]?:=fun q hq=>⟨⟨hq.1,hq.2.1,fun i=>by
  by_cases h1:i=30
  ·subst h1;rw [upd_eq];intro e;cases e
  ·rw [upd_ne O _ h1];exact hq.2.2 i⟩,rfl⟩
 refine ⟨⟨h.rd.box,h.rd.row⟩,⟨ho,h.rs.ch.keep hF (fun _ _=>rfl),h.rs.ar.keep hF (fun _ _=>rfl),?_,h.rs.mn.keep hF (fun _ _=>rfl),h.rs.an.keep hF (fun _ _=>rfl),h.rs.fn.keep hF (fun _ _=>rfl),h.rs.lb.keep hF (fun _ _=>rfl),h.rs.st.keep hF (fun _ _=>rfl)⟩,h.ge,h.le⟩
 obtain ⟨css,h1,h2⟩:=h.rs.fu
 refine ⟨css,h1,?_⟩
 rcases h2 with ⟨e,cs0,gs,f,pv,e1,e2,g1,g2,g3⟩ | ⟨e,e1,g1⟩
 ·exact .inl ⟨e,cs0,gs,f,pv,e1,e2,g1.keep hF,g2.keep hF,g3.keep hF fun _ _=>rfl⟩
 ·exact .inr ⟨e,e1,g1.keep hF⟩
theorem Pm.poke (h:Pm B b O pw cw ws S k w) {q i:Nat} (hq:(O 30).ownBlock=some q) (v:Value):Pm B b O pw cw ws S k (w.setCell ⟨q,i,none⟩ v):=by
 have hqb:=(h.rs.ow.lt 30 q hq).1
 have hne:∀ j,j ≠ 30->(O j).ownBlock ≠ some q:=fun j hj e=>h.rs.ow.ne j 30 q hj e hq
 have hF:∀ j,Fin' b O w j->j ≠ q:=fun j hj e=>hj.2.2 30 (e ▸ hq)
 have hsz:w.heap.size<=(w.setCell ⟨q,i,none⟩ v).heap.size:=by simp only [World.size_setCell];exact Nat.le_refl _
 refine ⟨h.rd.other v hqb,⟨h.rs.ow.size hsz,h.rs.ch.poke hF (hne 1 (by decide)),h.rs.ar.poke hF (hne 2 (by decide)),?_,h.rs.mn.poke hF (hne 4 (by decide)),h.rs.an.poke hF (hne 7 (by decide)),h.rs.fn.poke hF (hne 8 (by decide)),h.rs.lb.poke hF (hne 9 (by decide)),h.rs.st.poke hF (hne 10 (by decide))⟩,h.ge,h.le⟩
 have hk:∀ j,Fin' b O w j->Fin' b O (w.setCell ⟨q,i,none⟩ v) j/\(w.setCell ⟨q,i,none⟩ v).heap[j]?=w.heap[j]?:=fun j hj=>⟨hj.size hsz,heap_ot (hF j hj) _⟩
 obtain ⟨css,h1,h2⟩:=h.rs.fu
 refine ⟨css,owns_keepG h1 fun j hj=>heap_ot (by rintro rfl;exact hne 3 (by decide) hj) _,?_⟩
 rcases h2 with ⟨e,cs0,gs,f,pv,e1,e2,g1,g2,g3⟩ | ⟨e,e1,g1⟩
 ·exact .inl ⟨e,cs0,gs,f,pv,e1,e2,g1.keep hk,g2.keep hk,g3.keep hk fun j hj=>heap_ot (by rintro rfl;exact hne 20 (by decide) hj) _⟩
 ·exact .inr ⟨e,e1,g1.keep hk⟩
theorem Pm.close (h:Pm B b O pw cw ws S k w) (hok:SOk S) (n:Nat) (hn:n ≠ 1):∃ O',Pm B b O' pw cw ws { S with inn:=n } k (w.setCell ⟨b,11,none⟩ (.int .i64 (n:Int))):=by
 have hbn:But (fun i=>i=b) w (w.setCell ⟨b,11,none⟩ (.int .i64 (n:Int))):=(But.refl _ _).setC _ (.inl rfl)
 have hrow:=h.rd.row.keep (w':=w.setCell ⟨b,11,none⟩ (.int .i64 (n:Int))) (fun i hi=>⟨hi,heap_ot (Nat.ne_of_lt hi) _⟩)
 obtain ⟨css,h1,h2⟩:=h.rs.fu
 rcases h2 with ⟨e,cs0,gs,f,pv,e1,e2,g1,g2,g3⟩ | ⟨e,e1,g1⟩
 ·have ho:Owns b (upd O 20 (.slice none 0 0)) w:=⟨fun i j q hij hi=>by
   by_cases h1:i=20
   ·subst h1;rw [upd_eq] at hi;cases hi
   ·rw [upd_ne O _ h1] at hi
    by_cases h2:j=20
    ·subst h2;rw [upd_eq];intro e;cases e
    ·rw [upd_ne O _ h2];exact h.rs.ow.ne i j q hij hi,fun i q hi=>by
   by_cases h1:i=20
   ·subst h1;rw [upd_eq] at hi;cases hi
   ·rw [upd_ne O _ h1] at hi;exact h.rs.ow.lt i q hi⟩
  have hF:∀ q,Fin' b O w q->Fin' b (upd O 20 (.slice none 0 0)) w q/\w.heap[q]?=w.heap[q]?:=fun q hq=>⟨⟨hq.1,hq.2.1,fun i=>by
   by_cases h1:i=20
   ·subst h1;rw [upd_eq];intro e;cases e
   ·rw [upd_ne O _ h1];exact hq.2.2 i⟩,rfl⟩
  have h20:∀ q,(O 20).ownBlock=some q->Fin' b (upd O 20 (.slice none 0 0)) w q:=fun q hq=>⟨(h.rs.ow.lt 20 q hq).2,by have:=(h.rs.ow.lt 20 q hq).1;omega,fun i=>by
   by_cases h1:i=20
   ·subst h1;rw [upd_eq];intro e;cases e
   ·rw [upd_ne O _ h1];exact fun e=>h.rs.ow.ne i 20 q h1 e hq⟩
  have hcl:f.code.length<=1024:=(hok.cd f (by rw [e1];simp)).1
  have hfu:FuR b (upd O 20 (.slice none 0 0)) w n S.p.funcs:=by
   refine ⟨css,by rw [upd_ne O _ (by decide)];exact h1,.inr ⟨hn,upd_eq _ _ _,?_⟩⟩
   rw [e1,e2]
   refine (g1.keep hF).snoc ⟨pv,O 20,rfl,g2.keep hF,(g3.sl (by omega)).keep fun q hq=>?_⟩
   rcases hq with hq | hq
   ·exact hF q hq
   ·exact ⟨h20 q hq,rfl⟩
  have hps:PsR b w (upd O 20 (.slice none 0 0)) { S with inn:=n }:=⟨ho,h.rs.ch.keep hF (fun _ _=>rfl),h.rs.ar.keep hF (fun _ _=>rfl),hfu,h.rs.mn.keep hF (fun _ _=>rfl),h.rs.an.keep hF (fun _ _=>rfl),h.rs.fn.keep hF (fun _ _=>rfl),h.rs.lb.keep hF (fun _ _=>rfl),h.rs.st.keep hF (fun _ _=>rfl)⟩
  exact ⟨upd O 20 (.slice none 0 0),⟨h.rd.box.set 11 _,hrow⟩,hps.but hbn,h.ge,h.le⟩
 ·have hps:PsR b w O { S with inn:=n }:=⟨h.rs.ow,h.rs.ch,h.rs.ar,⟨css,h1,.inr ⟨hn,e1,g1⟩⟩,h.rs.mn,h.rs.an,h.rs.fn,h.rs.lb,h.rs.st⟩
  exact ⟨O,⟨h.rd.box.set 11 _,hrow⟩,hps.but hbn,h.ge,h.le⟩
end
def liftI (S:PS):PE (In × List Wd)->PE (In × List Bs × List Bs × List Wd)
 | .error e => .error e
 | .ok (x,q) => .ok (x,S.labels,S.sites,q)
def liftA (S:PS):PE (In × List Bs × List Wd)->PE (In × List Bs × List Bs × List Wd)
 | .error e => .error e
 | .ok (x,st,q) => .ok (x,S.labels,st,q)
theorem instr_kStore {S:PS} {f:Int × Int} {c:Wd} {r:List Wd} (h:c.1=kStore):instrP S f c r=liftI S (storeI f (anamesP S.p) r):=by
 unfold instrP storeI;rw [if_pos h];simp only [bind,Except.bind]
 cases knownP f (anamesP S.p) r with
 | error e=>rfl
 | ok p=>dsimp only;cases operandsP f 2 p.2 <;> rfl
theorem instr_wkIn {S:PS} {f:Int × Int} {c:Wd} {r:List Wd} (h:c.1=wkIn):instrP S f c r=liftI S (readI f S.p.chans r):=by
 unfold instrP readI;rw [if_neg (by rw [h];decide),if_pos h];simp only [bind,Except.bind]
 cases nameP f r with
 | error e=>rfl
 | ok p=>dsimp only;cases knownP f S.p.chans p.2 <;> rfl
theorem instr_kOut {S:PS} {f:Int × Int} {c:Wd} {r:List Wd} (h:c.1=kOut):instrP S f c r=liftI S (writeI f S.p.chans r):=by
 unfold instrP writeI;rw [if_neg (by rw [h];decide),if_neg (by rw [h];decide),if_pos h];simp only [bind,Except.bind]
 cases knownP f S.p.chans r with
 | error e=>rfl
 | ok p=>dsimp only;cases operandsP f 1 p.2 <;> rfl
theorem instr_kJump {S:PS} {f:Int × Int} {c:Wd} {r:List Wd} (h:c.1=kJump):instrP S f c r=liftI S (jumpI f r):=by
 unfold instrP jumpI;rw [if_neg (by rw [h];decide),if_neg (by rw [h];decide),if_neg (by rw [h];decide),if_pos h];simp only [bind,Except.bind]
 cases nameP f r <;> rfl
theorem instr_kIf {S:PS} {f:Int × Int} {c:Wd} {r:List Wd} (h:c.1=kIf):instrP S f c r=liftI S (branchI f r):=by
 unfold instrP branchI;rw [if_neg (by rw [h];decide),if_neg (by rw [h];decide),if_neg (by rw [h];decide),if_neg (by rw [h];decide),if_pos h];simp only [bind,Except.bind]
 cases operandsP f 1 r with
 | error e=>rfl
 | ok p=>dsimp only;cases nameP f p.2 <;> rfl
theorem instr_kHalt {S:PS} {f:Int × Int} {c:Wd} {r:List Wd} (h:c.1=kHalt):instrP S f c r=liftI S (.ok ({ in0 with kind:=11 },r)):=by
 unfold instrP;rw [if_neg (by rw [h];decide),if_neg (by rw [h];decide),if_neg (by rw [h];decide),if_neg (by rw [h];decide),if_neg (by rw [h];decide),if_pos h];rfl
theorem instr_kRet {S:PS} {f:Int × Int} {c:Wd} {r:List Wd} (h:c.1=kRet):instrP S f c r=liftI S (retI f S.inn r):=by
 unfold instrP retI;rw [if_neg (by rw [h];decide),if_neg (by rw [h];decide),if_neg (by rw [h];decide),if_neg (by rw [h];decide),if_neg (by rw [h];decide),if_neg (by rw [h];decide),if_pos h];simp only [bind,Except.bind]
 cases needM (decide (S.inn=1)) f 4 with
 | error e=>rfl
 | ok p=>dsimp only;cases operandsP f 1 r <;> rfl
theorem instr_label {S:PS} {f:Int × Int} {c:Wd} {r:List Wd} {s:Bs} (h0:c.1 ≠ kStore) (h1:c.1 ≠ wkIn) (h2:c.1 ≠ kOut) (h3:c.1 ≠ kJump) (h4:c.1 ≠ kIf) (h5:c.1 ≠ kHalt) (h6:c.1 ≠ kRet) (hl:labelP c.1=some s):instrP S f c r=if S.labels.contains s=true then .error (wpos c,8) else .ok ({ in0 with kind:=10,nm:=s },S.labels++[s],S.sites,r):=by
 unfold instrP;rw [if_neg h0,if_neg h1,if_neg h2,if_neg h3,if_neg h4,if_neg h5,if_neg h6,hl];simp only [needM,bind,Except.bind];cases S.labels.contains s <;> rfl
theorem instr_assign {S:PS} {f:Int × Int} {c:Wd} {r:List Wd} (h0:c.1 ≠ kStore) (h1:c.1 ≠ wkIn) (h2:c.1 ≠ kOut) (h3:c.1 ≠ kJump) (h4:c.1 ≠ kIf) (h5:c.1 ≠ kHalt) (h6:c.1 ≠ kRet) (hl:labelP c.1=none):instrP S f c r=if namedB c.1=true then liftA S (assignP S f c.1 r) else .error (wpos c,4):=by
 unfold instrP;rw [if_neg h0,if_neg h1,if_neg h2,if_neg h3,if_neg h4,if_neg h5,if_neg h6,hl];simp only [needM,bind,Except.bind]
 cases namedB c.1
 ·rfl
 ·simp only [if_true];cases assignP S f c.1 r <;> rfl
end Go.Proofs.YtoofbgoeipijcaaGreatDoor
