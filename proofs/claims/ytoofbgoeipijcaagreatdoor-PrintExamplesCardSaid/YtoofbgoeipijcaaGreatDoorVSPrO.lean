/-
 A part.
-/
import Derived.Test.YtoofbgoeipijcaaGreatDoorVB5
import Derived.MapKept
import Derived.Laws.RangeString
namespace Go.Proofs.YtoofbgoeipijcaaGreatDoor
set_option maxRecDepth 100000
set_option maxHeartbeats 2000000
set_option linter.all false
open Go.RowKit Go.Shelf
attribute [local go_sem] Oper.semAt_some
theorem heap_set_cellS {W:World} {g i:Nat} {t:TypeId} {cs:Array Value} (h:W.heap[g]?=some (.cells cs t (0,0))) (u:Value):(W.setCell ⟨g,i,none⟩ u).heap[g]?=some (.cells (cs.setIfInBounds i u) t (0,0)):=heap_setCell_same W g i cs t u h
theorem setRow_below {a:World} (w:World) (B g:Nat) (cs:Array Value) (h:B<=g) (hb:Below B a w):Below B a (w.setRow g cs):=by
 exact hb.trans ⟨rfl,rfl,rfl,by simp,fun k hk=>setRow_other w g k cs (by omega)⟩
def arrK (k:Nat):Array Value:=(List.replicate k (Value.int .u8 2)++List.replicate (22 - k) (Value.int .u8 0)).toArray
theorem arrK_at (k:Nat) (h:k<22):(arrK k)[k]?=some (.int .u8 0):=by
 unfold arrK
 rw [List.getElem?_toArray,List.getElem?_append_right (by simp),List.length_replicate,Nat.sub_self,show 22 - k=(22 - (k+1))+1 by omega,List.replicate_succ]
 rfl
theorem arrK_set (k:Nat) (h:k<22):(arrK k).setIfInBounds k (.int .u8 2)=arrK (k+1):=by
 unfold arrK
 rw [List.setIfInBounds_toArray]
 congr 1
 rw [List.set_append_right _ _ (by simp),List.length_replicate,Nat.sub_self,show 22 - k=(22 - (k+1))+1 by omega,List.replicate_succ,List.set_cons_zero,List.replicate_succ',List.append_assoc]
 rfl
def fin22:Array Value:=#[.int .u8 0,.int .u8 0,.int .u8 1,.int .u8 1,.int .u8 2,.int .u8 2,.int .u8 2,.int .u8 2,.int .u8 2,.int .u8 2,.int .u8 2,.int .u8 2,.int .u8 2,.int .u8 2,.int .u8 2,.int .u8 2,.int .u8 2,.int .u8 2,.int .u8 2,.int .u8 2,.int .u8 2,.int .u8 3]
theorem arities_any (w:World):Calls Tryz.prog 219 #[] w fun e w'=>e=.returned (.agg fin22)/\Below w.heap.size w w':=by
 obtain ⟨W0,hW0⟩:∃ W,(w.alloc (.cells #[.int .u8 0,.int .u8 0,.int .u8 0,.int .u8 0,.int .u8 0,.int .u8 0,.int .u8 0,.int .u8 0,.int .u8 0,.int .u8 0,.int .u8 0,.int .u8 0,.int .u8 0,.int .u8 0,.int .u8 0,.int .u8 0,.int .u8 0,.int .u8 0,.int .u8 0,.int .u8 0,.int .u8 0,.int .u8 0] 239)).alloc (.cells #[.int .u8 0,.int .u8 0,.int .u8 0,.int .u8 0,.int .u8 0,.int .u8 0,.int .u8 0,.int .u8 0,.int .u8 0,.int .u8 0,.int .u8 0,.int .u8 0,.int .u8 0,.int .u8 0,.int .u8 0,.int .u8 0,.int .u8 0,.int .u8 0,.int .u8 0,.int .u8 0,.int .u8 0,.int .u8 0] 239)=W:=⟨_,rfl⟩
 have hb0:Below w.heap.size w W0:=by rw [<- hW0];exact (bA).alloc (by rw [sA];omega) _
 have hc0:W0.heap[w.heap.size]?=some (.cells #[.int .u8 0,.int .u8 0,.int .u8 0,.int .u8 0,.int .u8 0,.int .u8 0,.int .u8 0,.int .u8 0,.int .u8 0,.int .u8 0,.int .u8 0,.int .u8 0,.int .u8 0,.int .u8 0,.int .u8 0,.int .u8 0,.int .u8 0,.int .u8 0,.int .u8 0,.int .u8 0,.int .u8 0,.int .u8 0] 239 (0,0)):=by rw [<- hW0,heap_al,if_neg (by rw [sA];omega),heap_al,if_pos rfl]
 have hc1:W0.heap[w.heap.size+1]?=some (.cells (arrK 0) 239 (0,0)):=by rw [<- hW0,heap_al,if_pos (by rw [sA])];rfl
 have HB0:=hid hb0;have HC0:=hid hc0;have HC1:=hid hc1
 have HWW:=hid hW0
 clear hb0 hc0 hc1 hW0
 go_enter Tryz.func219,Tryz.ntmps219
 go_wp2_with fail
 rw [HWW.out]
 go_loopw [3] (fun iv wr=>∃ k:Nat,k<=22/\iv=.int .i64 (k:Int)/\wr.heap[w.heap.size+1]?=some (.cells (arrK k) 239 (0,0))/\wr.heap[w.heap.size]?=some (.cells #[.int .u8 0,.int .u8 0,.int .u8 0,.int .u8 0,.int .u8 0,.int .u8 0,.int .u8 0,.int .u8 0,.int .u8 0,.int .u8 0,.int .u8 0,.int .u8 0,.int .u8 0,.int .u8 0,.int .u8 0,.int .u8 0,.int .u8 0,.int .u8 0,.int .u8 0,.int .u8 0,.int .u8 0,.int .u8 0] 239 (0,0))/\Below w.heap.size w wr) (fun iv _=>22 - (intOf iv).toNat)
 case atStart=>exact ⟨0,by omega,rfl,HC1.out,HC0.out,HB0.out⟩
 case round =>
  obtain ⟨k,hk,rfl,h1,h0,hb⟩:=hrel
  obtain ⟨wo,rfl⟩:∃ wo:World,wo=wr:=⟨_,rfl⟩
  have H1:=hid h1;have H0:=hid h0;have HB:=hid hb
  by_cases hlt:k<22
  ·have d22:decide ((k:Int)<22)=true:=by simp;omega
   have e1:wo.cell? ⟨w.heap.size+1,k,none⟩=some (.int .u8 0):=by rw [cell_of_row wo _ k _ _ _ h1];exact arrK_at k hlt
   have f1:wo.frozen? ⟨w.heap.size+1,k,none⟩=false:=frozen_of_row wo _ k _ _ h1
   have HST:=hid (arrK_set k hlt)
   have HLT:=hid hlt
   clear h1 h0 hb
   go_wp2
   go_roundw
   case rel=>exact ⟨k+1,by have:=HLT.out;omega,by go_num,by rw [<- HST.out];exact heap_set_cellS H1.out _,(Below.heap_setCell _ _ _ _ (by show w.heap.size ≠ w.heap.size+1;omega)).trans H0.out,HB.setCell (by show w.heap.size<=w.heap.size+1;omega) _⟩
   case measure=>(have:=HLT.out;simp [intOf];omega)
  ·obtain rfl:k=22:=by omega
   have h1':wo.heap[w.heap.size+1]?=some (.cells #[.int .u8 2,.int .u8 2,.int .u8 2,.int .u8 2,.int .u8 2,.int .u8 2,.int .u8 2,.int .u8 2,.int .u8 2,.int .u8 2,.int .u8 2,.int .u8 2,.int .u8 2,.int .u8 2,.int .u8 2,.int .u8 2,.int .u8 2,.int .u8 2,.int .u8 2,.int .u8 2,.int .u8 2,.int .u8 2] 239 (0,0)):=h1
   have H1:=hid h1'
   have d22:decide ((((22:Nat):Int))<22)=false:=by decide
   have y0:wo.cell? ⟨w.heap.size+1,0,none⟩=some (.int .u8 2):=(by rw [cell_of_row wo _ 0 _ _ _ h1'];rfl)
   have e0:wo.frozen? ⟨w.heap.size+1,0,none⟩=false:=frozen_of_row wo _ 0 _ _ h1'
   have y1:wo.cell? ⟨w.heap.size+1,1,none⟩=some (.int .u8 2):=(by rw [cell_of_row wo _ 1 _ _ _ h1'];rfl)
   have e1:wo.frozen? ⟨w.heap.size+1,1,none⟩=false:=frozen_of_row wo _ 1 _ _ h1'
   have y2:wo.cell? ⟨w.heap.size+1,2,none⟩=some (.int .u8 2):=(by rw [cell_of_row wo _ 2 _ _ _ h1'];rfl)
   have e2:wo.frozen? ⟨w.heap.size+1,2,none⟩=false:=frozen_of_row wo _ 2 _ _ h1'
   have y3:wo.cell? ⟨w.heap.size+1,3,none⟩=some (.int .u8 2):=(by rw [cell_of_row wo _ 3 _ _ _ h1'];rfl)
   have e3:wo.frozen? ⟨w.heap.size+1,3,none⟩=false:=frozen_of_row wo _ 3 _ _ h1'
   have y21:wo.cell? ⟨w.heap.size+1,21,none⟩=some (.int .u8 2):=(by rw [cell_of_row wo _ 21 _ _ _ h1'];rfl)
   have e21:wo.frozen? ⟨w.heap.size+1,21,none⟩=false:=frozen_of_row wo _ 21 _ _ h1'
   clear h1 h0 hb h1'
   go_wp2_with (obtain ⟨w7,hw7⟩:∃ W,(((((wo).setCell ⟨w.heap.size+1,0,none⟩ (.int .u8 0)).setCell ⟨w.heap.size+1,1,none⟩ (.int .u8 0)).setCell ⟨w.heap.size+1,2,none⟩ (.int .u8 1)).setCell ⟨w.heap.size+1,3,none⟩ (.int .u8 1)).setCell ⟨w.heap.size+1,21,none⟩ (.int .u8 3)=W:=⟨_,rfl⟩;rw [hw7];have hg7:w7.heap[w.heap.size+1]?=some (.cells fin22 239 (0,0)):=(by rw [<- hw7];exact heap_set_cellS (heap_set_cellS (heap_set_cellS (heap_set_cellS (heap_set_cellS H1.out _) _) _) _) _);have hz7:w7.heap[w.heap.size]?=some (.cells #[.int .u8 0,.int .u8 0,.int .u8 0,.int .u8 0,.int .u8 0,.int .u8 0,.int .u8 0,.int .u8 0,.int .u8 0,.int .u8 0,.int .u8 0,.int .u8 0,.int .u8 0,.int .u8 0,.int .u8 0,.int .u8 0,.int .u8 0,.int .u8 0,.int .u8 0,.int .u8 0,.int .u8 0,.int .u8 0] 239 (0,0)):=(by rw [<- hw7];exact (Below.heap_setCell _ _ _ _ (by show w.heap.size ≠ w.heap.size+1;omega)).trans ((Below.heap_setCell _ _ _ _ (by show w.heap.size ≠ w.heap.size+1;omega)).trans ((Below.heap_setCell _ _ _ _ (by show w.heap.size ≠ w.heap.size+1;omega)).trans ((Below.heap_setCell _ _ _ _ (by show w.heap.size ≠ w.heap.size+1;omega)).trans ((Below.heap_setCell _ _ _ _ (by show w.heap.size ≠ w.heap.size+1;omega)).trans H0.out)))));have hb7:Below w.heap.size w w7:=(by rw [<- hw7];exact ((((HB.out.setCell (by show w.heap.size<=w.heap.size+1;omega) _).setCell (by show w.heap.size<=w.heap.size+1;omega) _).setCell (by show w.heap.size<=w.heap.size+1;omega) _).setCell (by show w.heap.size<=w.heap.size+1;omega) _).setCell (by show w.heap.size<=w.heap.size+1;omega) _);refine wpList_load_row rfl 239 (.tmp 1) rfl (w.heap.size+1) rfl 239 fin22 (0,0) (.array 22 5) hg7 (by as_aux_lemma=>kernel_rfl) rfl (by as_aux_lemma=>kernel_rfl) ?_;refine wpList_store_row rfl 239 (.tmp 0) (.tmp 14) rfl w.heap.size fin22 rfl rfl 239 _ hz7 (by as_aux_lemma=>kernel_rfl) (by as_aux_lemma=>kernel_rfl) (by as_aux_lemma=>kernel_rfl) ?_;have hg8:=setRow_heap w7 w.heap.size _ fin22 _ _ hz7;have hb8:=setRow_below w7 w.heap.size w.heap.size fin22 lrf hb7;generalize World.setRow w7 w.heap.size fin22=w8 at hg8 hb8 ⊢;have HG8:=hid hg8;have HB8:=hid hb8;clear y0 e0 y1 e1 y2 e2 y3 e3 y21 e21 hw7 hg7 hz7 hb7 hg8 hb8)
   refine bodyPost_ret (results_cell_row (g:=w.heap.size) (t:=239) (cs:=fin22) (fr:=(0,0)) (d := .array 22 5) rfl _ _ rfl HG8.out (by as_aux_lemma=>kernel_rfl) rfl (by as_aux_lemma=>kernel_rfl)) rfl ⟨rfl,HB8.out⟩
def allB:Bs:=[32,110,111,116,32,110,101,103,32,97,100,100,32,115,117,98,32,109,117,108,32,100,105,118,32,114,101,109,32,97,110,100,32,111,114,32,120,111,114,32,115,104,108,32,115,104,114,32,115,97,114,32,101,113,32,110,101,32,108,116,32,108,101,32,115,108,116,32,115,108,101,32,105,116,101]
def nmStep (k:Nat) (c:UInt8) (st:Nat × Nat × List Bs):Nat × Nat × List Bs :=
 if c=32 then (st.1+1,k+1,st.2.2) else (st.1,st.2.1,st.2.2.set st.1 ((allB.drop st.2.1).take (k+1 - st.2.1)))
def nmSt:Nat->Nat × Nat × List Bs
 | 0=>(1,0,List.replicate 22 [])
 | k+1=>nmStep k (allB.getD k 0) (nmSt k)
def nmOk (k:Nat):Bool:=decide ((nmSt k).2.1<=k) && decide ((nmSt k).2.2.length=22) && decide ((nmSt k).1<=21) && decide ((allB.getD k 0).toNat<128)
theorem nm_ok:(List.range 75).all nmOk=true:=by decide +kernel
def finN:List Bs:=[[],[]]++opL
theorem nm_end:(nmSt 75).2.2=finN:=by decide +kernel
def rowS (l:List Bs):Array Value:=(l.map fun s=>Value.string ⟨s.toArray⟩).toArray
theorem rowS_set (l:List Bs) (i:Nat) (s:Bs):rowS (l.set i s)=(rowS l).setIfInBounds i (.string ⟨s.toArray⟩):=by
 unfold rowS
 rw [List.setIfInBounds_toArray,List.map_set]
theorem run_next_heap {P:Program} {w:World} {r pos:Nat} {s:ByteArray} (hb:w.heap[r]?=some (.stringIter s pos)) (h:pos<s.size) (ha:(s[pos]'h).toNat<128) :
  ∃ w',(∀ ty,(Instr.next (.pointer (some ⟨r,0,none⟩)) true ty).run P w=.ok (.tuple #[.bool true,.int .i64 pos,.int .i32 (s[pos]'h).toNat]) w')/\w'.heap[r]?=some (.stringIter s (pos+1))/\w.grownBy w' (some r):=by
 refine ⟨{ w with heap:=w.heap.setIfInBounds r (.stringIter s (pos+1)) },fun ty=>?_,(MapKept.heap_set hb).1,⟨rfl,rfl,rfl,by simp,fun i _ hi=>(MapKept.heap_set hb).2 i (fun e=>hi (by rw [e]))⟩⟩
 simp only [Instr.next,getObj,setObj,Sem.run_bind,Sem.run,hb,Result.andThen,h,if_true,decode_ascii s pos h ha]
 simp [goInt,Sem.run,hb]
theorem run_next_heap_end {P:Program} {w:World} {r pos:Nat} {s:ByteArray} (ty:TypeId) (hb:w.heap[r]?=some (.stringIter s pos)) (h:¬ pos<s.size) :
  (Instr.next (.pointer (some ⟨r,0,none⟩)) true ty).run P w=.ok (.tuple #[.bool false]) w:=by
 simp [Instr.next,getObj,Sem.run,hb,h]
theorem names_any (w:World):Calls Tryz.prog 129 #[] w fun e w'=>e=.returned (.agg (rowS finN))/\Below w.heap.size w w':=by
 obtain ⟨W0,hW0⟩:∃ W,((w.alloc (.cells #[.string ⟨#[]⟩,.string ⟨#[]⟩,.string ⟨#[]⟩,.string ⟨#[]⟩,.string ⟨#[]⟩,.string ⟨#[]⟩,.string ⟨#[]⟩,.string ⟨#[]⟩,.string ⟨#[]⟩,.string ⟨#[]⟩,.string ⟨#[]⟩,.string ⟨#[]⟩,.string ⟨#[]⟩,.string ⟨#[]⟩,.string ⟨#[]⟩,.string ⟨#[]⟩,.string ⟨#[]⟩,.string ⟨#[]⟩,.string ⟨#[]⟩,.string ⟨#[]⟩,.string ⟨#[]⟩,.string ⟨#[]⟩] 166)).alloc (.cells #[.string ⟨#[]⟩,.string ⟨#[]⟩,.string ⟨#[]⟩,.string ⟨#[]⟩,.string ⟨#[]⟩,.string ⟨#[]⟩,.string ⟨#[]⟩,.string ⟨#[]⟩,.string ⟨#[]⟩,.string ⟨#[]⟩,.string ⟨#[]⟩,.string ⟨#[]⟩,.string ⟨#[]⟩,.string ⟨#[]⟩,.string ⟨#[]⟩,.string ⟨#[]⟩,.string ⟨#[]⟩,.string ⟨#[]⟩,.string ⟨#[]⟩,.string ⟨#[]⟩,.string ⟨#[]⟩,.string ⟨#[]⟩] 166)).iter ⟨#[32,110,111,116,32,110,101,103,32,97,100,100,32,115,117,98,32,109,117,108,32,100,105,118,32,114,101,109,32,97,110,100,32,111,114,32,120,111,114,32,115,104,108,32,115,104,114,32,115,97,114,32,101,113,32,110,101,32,108,116,32,108,101,32,115,108,116,32,115,108,101,32,105,116,101]⟩ 0=W:=⟨_,rfl⟩
 obtain ⟨sb,hsb⟩:∃ x:ByteArray,⟨#[32,110,111,116,32,110,101,103,32,97,100,100,32,115,117,98,32,109,117,108,32,100,105,118,32,114,101,109,32,97,110,100,32,111,114,32,120,111,114,32,115,104,108,32,115,104,114,32,115,97,114,32,101,113,32,110,101,32,108,116,32,108,101,32,115,108,116,32,115,108,101,32,105,116,101]⟩=x:=⟨_,rfl⟩
 have hb0:Below w.heap.size w W0:=by rw [<- hW0];exact ((bA).alloc (by rw [sA];omega) _).alloc (by rw [sA,sA];omega) _
 have hc0:W0.heap[w.heap.size]?=some (.cells #[.string ⟨#[]⟩,.string ⟨#[]⟩,.string ⟨#[]⟩,.string ⟨#[]⟩,.string ⟨#[]⟩,.string ⟨#[]⟩,.string ⟨#[]⟩,.string ⟨#[]⟩,.string ⟨#[]⟩,.string ⟨#[]⟩,.string ⟨#[]⟩,.string ⟨#[]⟩,.string ⟨#[]⟩,.string ⟨#[]⟩,.string ⟨#[]⟩,.string ⟨#[]⟩,.string ⟨#[]⟩,.string ⟨#[]⟩,.string ⟨#[]⟩,.string ⟨#[]⟩,.string ⟨#[]⟩,.string ⟨#[]⟩] 166 (0,0)):=by rw [<- hW0];unfold World.iter;rw [heap_al,if_neg (by rw [sA,sA];omega),heap_al,if_neg (by rw [sA];omega),heap_al,if_pos rfl]
 have hc1:W0.heap[w.heap.size+1]?=some (.cells (rowS (nmSt 0).2.2) 166 (0,0)):=by rw [<- hW0];unfold World.iter;rw [heap_al,if_neg (by rw [sA,sA];omega),heap_al,if_pos (by rw [sA])];rfl
 have hc2:W0.heap[w.heap.size+1+1]?=some (.stringIter sb 0):=by rw [<- hW0,<- hsb];unfold World.iter;rw [heap_al,if_pos (by rw [sA,sA])]
 have HB0:=hid hb0;have HC0:=hid hc0;have HC1:=hid hc1;have HC2:=hid hc2
 have HWW:=hid hW0
 have hsz:sb.size=75:=by rw [<- hsb];rfl
 have hat:∀ k (h:k<sb.size),sb[k]=allB.getD k 0:=by
  intro k h
  subst hsb
  have h':k<allB.length:=h
  rw [List.getD_eq_getElem?_getD,List.getElem?_eq_getElem h']
  rfl
 have hex:∀ f k,sb.extract f k=⟨((allB.drop f).take (k - f)).toArray⟩:=by
  intro f k
  rw [ByteArray.ext_iff]
  apply Array.ext'
  rw [extract_toList,<- hsb]
  rfl
 have HSB:=hid hsb;have HAT:=hid hat;have HSZ:=hid hsz;have HEX:=hid hex
 clear hb0 hc0 hc1 hc2 hW0 hsb hat hsz hex
 go_enter Tryz.func129,Tryz.ntmps129
 go_wp2_with fail
 rw [HWW.out]
 go_loopw [2,3] (fun nv fv wr=>∃ k:Nat,k<=75/\nv=.int .i64 ((nmSt k).1:Int)/\fv=.int .i64 ((nmSt k).2.1:Int)/\wr.heap[w.heap.size+1+1]?=some (.stringIter sb k)/\wr.heap[w.heap.size+1]?=some (.cells (rowS (nmSt k).2.2) 166 (0,0))/\wr.heap[w.heap.size]?=some (.cells #[.string ⟨#[]⟩,.string ⟨#[]⟩,.string ⟨#[]⟩,.string ⟨#[]⟩,.string ⟨#[]⟩,.string ⟨#[]⟩,.string ⟨#[]⟩,.string ⟨#[]⟩,.string ⟨#[]⟩,.string ⟨#[]⟩,.string ⟨#[]⟩,.string ⟨#[]⟩,.string ⟨#[]⟩,.string ⟨#[]⟩,.string ⟨#[]⟩,.string ⟨#[]⟩,.string ⟨#[]⟩,.string ⟨#[]⟩,.string ⟨#[]⟩,.string ⟨#[]⟩,.string ⟨#[]⟩,.string ⟨#[]⟩] 166 (0,0))/\Below w.heap.size w wr) (fun _ _ wr=>75 - (match wr.heap[w.heap.size+1+1]? with | some (.stringIter _ k)=>k | _=>0))
 case atStart=>exact ⟨0,by omega,rfl,rfl,HC2.out,HC1.out,HC0.out,HB0.out⟩
 case round =>
  obtain ⟨k,hk,rfl,rfl,h2,h1,h0,hb⟩:=hrel
  obtain ⟨wo,rfl⟩:∃ wo:World,wo=wr:=⟨_,rfl⟩
  have H2:=hid h2;have H1:=hid h1;have H0:=hid h0;have HB:=hid hb
  by_cases hlt:k<75
  ·have hok:=List.all_eq_true.1 nm_ok k (List.mem_range.2 hlt)
   unfold nmOk at hok
   simp only [Bool.and_eq_true,decide_eq_true_eq] at hok
   obtain ⟨⟨⟨o1,o2⟩,o3⟩,o4⟩:=hok
   have hks:k<sb.size:=by rw [HSZ.out];exact hlt
   have hc:=HAT.out k hks
   obtain ⟨W1,hnx,hit,hg⟩:=run_next_heap (P:=Tryz.prog) h2 hks (by rw [hc];exact o4)
   rw [hc] at hnx
   have hgs:∀ j,j ≠ w.heap.size+1+1->j<wo.heap.size->W1.heap[j]?=wo.heap[j]?:=fun j hj hlt=>hg.block j hlt (fun e=>by cases e;exact hj rfl)
   have l1:w.heap.size+1<wo.heap.size:=(Array.getElem?_eq_some_iff.1 h1).1
   have l0:w.heap.size<wo.heap.size:=by omega
   have HI:=hid hit;have HG1:=hid ((hgs _ (by omega) l1).trans h1);have HG0:=hid ((hgs _ (by omega) l0).trans h0)
   have HBW:=hid (hb.grown hg (by omega) (fun j e=>by cases e;omega))
   obtain ⟨N,hN⟩:∃ x,(nmSt k).1=x:=⟨_,rfl⟩
   obtain ⟨F,hF⟩:∃ x,(nmSt k).2.1=x:=⟨_,rfl⟩
   obtain ⟨L,hL⟩:∃ x,(nmSt k).2.2=x:=⟨_,rfl⟩
   have hst:nmSt (k+1)=nmStep k (allB.getD k 0) (N,F,L):=by rw [<- hN,<- hF,<- hL];rfl
   rw [hN] at o3
   rw [hF] at o1
   rw [hL] at o2
   rw [hN,hF]
   obtain ⟨c,hcc⟩:∃ x,allB.getD k 0=x:=⟨_,rfl⟩
   rw [hcc] at hnx hst
   have HST:=hid hst;have HL:=hid hL;have HLT:=hid hlt;have HLN:=hid o2
   have y1:W1.cell? ⟨w.heap.size+1,N,none⟩=some (rowS L)[N]!:=by
    rw [cell_of_row W1 _ N _ _ _ (HL.out ▸ HG1.out),getElem!_pos _ _ (by unfold rowS;simp [o2];omega)]
    exact Array.getElem?_eq_getElem _
   have e1:W1.frozen? ⟨w.heap.size+1,N,none⟩=false:=frozen_of_row W1 _ N _ _ HG1.out
   have hN0:N<22:=by omega
   have hF0:F<=k+1:=by omega
   have hk0:k+1<=75:=hlt
   clear h2 h1 h0 hb hit hg hgs hst hL hN hF hlt o4 hc hcc o2
   by_cases hcb:c=32
   ·subst hcb
    go_wp2_with fail
    go_roundw
    case rel=>exact ⟨k+1,HLT.out,by rw [HST.out];rfl,by rw [HST.out];rfl,HI.out,by rw [HST.out,<- HL.out];exact HG1.out,HG0.out,HBW.out⟩
    case measure=>(rw [H2.out,HI.out];have:=HLT.out;simp;omega)
   ·have g1:((c.toNat:Int) == 32)=false:=by
     rw [beq_eq_false_iff_ne]
     intro e
     exact hcb (UInt8.toNat_inj.1 (by simpa using Int.ofNat.inj e))
    have hst2:nmSt (k+1)=(N,F,L.set N ((allB.drop F).take (k+1 - F))):=by rw [HST.out];unfold nmStep;rw [if_neg hcb]
    have HS2:=hid hst2
    clear hst2
    go_wp2_with fail
    go_roundw
    case rel=>exact ⟨k+1,HLT.out,by rw [HS2.out],by rw [HS2.out],(Below.heap_setCell _ _ _ _ (by show w.heap.size+1+1 ≠ w.heap.size+1;omega)).trans HI.out,by rw [HS2.out,rowS_set,HSB.out,HEX.out,<- HL.out];exact heap_set_cellS HG1.out _,(Below.heap_setCell _ _ _ _ (by show w.heap.size ≠ w.heap.size+1;omega)).trans HG0.out,HBW.setCell (by show w.heap.size<=w.heap.size+1;omega) _⟩
    case measure=>(rw [H2.out,Below.heap_setCell _ _ _ _ (show w.heap.size+1+1 ≠ w.heap.size+1 by omega),HI.out];have:=HLT.out;simp;omega)
  ·obtain rfl:k=75:=by omega
   have hnx:=fun ty=>run_next_heap_end (P:=Tryz.prog) ty h2 (by rw [HSZ.out];omega)
   rw [nm_end] at h1
   have H1:=hid h1
   clear h2 h1 h0 hb
   have HB:=hid HB.out
   go_wp2_with (refine wpList_load_row rfl 166 (.tmp 1) rfl (w.heap.size+1) rfl 166 (rowS finN) (0,0) (.array 22 9) H1.out (by as_aux_lemma=>kernel_rfl) rfl (by as_aux_lemma=>kernel_rfl) ?_;refine wpList_store_row rfl 166 (.tmp 0) (.tmp 23) rfl w.heap.size (rowS finN) rfl rfl 166 _ H0.out (by as_aux_lemma=>kernel_rfl) (by as_aux_lemma=>kernel_rfl) (by as_aux_lemma=>kernel_rfl) ?_;have hg8:=setRow_heap wo w.heap.size _ (rowS finN) _ _ H0.out;have hb8:=setRow_below wo w.heap.size w.heap.size (rowS finN) lrf HB.out;generalize World.setRow wo w.heap.size (rowS finN)=w8 at hg8 hb8 ⊢;have HG8:=hid hg8;have HB8:=hid hb8;clear hg8 hb8)
   refine bodyPost_ret (results_cell_row (g:=w.heap.size) (t:=166) (cs:=rowS finN) (fr:=(0,0)) (d := .array 22 9) rfl _ _ rfl HG8.out (by as_aux_lemma=>kernel_rfl) rfl (by as_aux_lemma=>kernel_rfl)) rfl ⟨rfl,HB8.out⟩
end Go.Proofs.YtoofbgoeipijcaaGreatDoor
