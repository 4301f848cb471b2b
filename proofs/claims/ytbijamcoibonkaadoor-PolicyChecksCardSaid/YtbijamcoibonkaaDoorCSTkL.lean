/-
 Package token: the iterator over the lines of a text, and the law for a loop over it whose body may return.
-/
import Derived.Test.YtbijamcoibonkaaDoorCSTkM
import Derived.Test.YtbijamcoibonkaaDoorCSShelf
namespace Go.Proofs.YtbijamcoibonkaaDoor
set_option linter.unusedSimpArgs false
set_option linter.unusedVariables false
open Go.RowKit Go.Shelf
attribute [local go_sem] Oper.semAt_some
theorem index_nl:∀ t:Bs,(Lib.index t [10] = -1∧cutNL t=(t,[],false))∨(∃ i:Nat,Lib.index t [10]=i∧cutNL t=(t.take i,t.drop (i+1),true))
 | [] => .inl ⟨rfl,rfl⟩
 | c :: r=>by
  unfold Lib.index cutNL
  by_cases h:c=10
  ·subst h
   exact .inr ⟨0,by simp [List.isPrefixOf],by simp⟩
  ·have h0:([10]:Bs).isPrefixOf (c :: r)=false:=by
    simp [List.isPrefixOf]
    exact fun e=>h e.symm
   rw [if_neg h,h0]
   rcases index_nl r with ⟨h1,h2⟩ | ⟨i,h1,h2⟩
   ·exact .inl ⟨by rw [h1];rfl,by rw [h2]⟩
   ·refine .inr ⟨i+1,?_,?_⟩
    ·rw [h1]
     have:((i:Int) == -1)=false:=by rw [beq_eq_false_iff_ne];omega
     simp [this]
    ·rw [h2];simp
theorem cut_nl (t:Bs):Lib.cut t [10]=cutNL t:=by
 unfold Lib.cut
 rcases index_nl t with ⟨h1,h2⟩ | ⟨i,h1,h2⟩
 ·rw [h1,h2];rfl
 ·rw [h1,h2,if_pos (by omega)];simp
theorem cut_any (t:Bs) (m:Int) (w:World) (hs:t.length≤65536) (hm:w.cell? ⟨2,0,none⟩=some (.int .i64 m)) :
  Calls Tryd.prog 81 #[.string ⟨t.toArray⟩,.string ⟨#[10]⟩] w fun e w'=>e = .returned (.tuple #[.string ⟨(cutNL t).1.toArray⟩,.string ⟨(cutNL t).2.1.toArray⟩,.bool (cutNL t).2.2])∧∃ n,w.drewN n=w':=by
 refine (Tryd.strings_Cut ⟨t.toArray⟩ ⟨#[10]⟩ m w (by show t.toArray.size<_;simp;omega) hm).mono ?_
 rintro e w' ⟨rfl,n,rfl⟩
 refine ⟨?_,n,rfl⟩
 show Ending.returned (.tuple #[.string ⟨(Lib.cut t.toArray.toList [10]).1.toArray⟩,.string ⟨(Lib.cut t.toArray.toList [10]).2.1.toArray⟩,.bool (Lib.cut t.toArray.toList [10]).2.2])=_
 rw [show t.toArray.toList=t from rfl,cut_nl]
set_option maxRecDepth 100000 in
set_option maxHeartbeats 2000000 in
theorem lines1_in (n0 l bs:Nat) (hn:1≤n0) (m:Int) (J K:Nat→Bs→World→Prop) (Jx:World→Prop)
  (hJc:∀ n t W,J n t W→W.cell? ⟨bs,0,none⟩=some (.string ⟨t.toArray⟩)∧W.cell? ⟨2,0,none⟩=some (.int .i64 m))
  (hJd:∀ n t W k,J n t W→J n t (W.drewN k))
  (hY:∀ n t W,J n t W→1≤n→n+t.length≤65537→YieldAt Fence.wide (n0 - 1) Tryd.prog l #[.int .i64 n,.string ⟨(cutNL t).1.toArray⟩] W fun e W' =>
   (e = .returned (.bool true)∧K n t W')∨(e = .returned (.bool false)∧Jx W'))
  (hK:∀ n t W,K n t W→W.cell? ⟨bs,0,none⟩=some (.string ⟨t.toArray⟩)∧W.frozen? ⟨bs,0,none⟩=false)
  (hKJ:∀ n t W,K n t W→(cutNL t).2.2=true→J (n+1) (cutNL t).2.1 (W.setCell ⟨bs,0,none⟩ (.string ⟨(cutNL t).2.1.toArray⟩)))
  (s:Bs) (hs:s.length≤65536) (W:World) (h0:J 1 s W) :
  CallsIn Fence.wide n0 Tryd.prog 80 #[.func (.yield l) #[] #[],.pointer (some ⟨bs,0,none⟩)] W fun e W'=>(∃ v,e = .returned v)∧((∃ n t,K n t W'∧(cutNL t).2.2=false)∨Jx W'):=by
 refine callsIn_of_wp Tryd.func80 rfl trivial ?_ rfl
 simp only [Tryd.ntmps80,List.size_toArray,List.length_cons,List.length_nil,Nat.reduceAdd,Nat.reduceSub,Array.replicate_succ,Array.replicate_zero,List.push_toArray,List.append_toArray,List.nil_append,List.cons_append]
 gi_wp2
 gi_loopw [3] (fun i wr=>∃ (n:Nat) (t:Bs),i = .int .i64 n∧1≤n∧n+t.length≤65537∧J n t wr) (fun i wr=>65537 - (intOf i).toNat)
 case atStart=>exact ⟨1,s,rfl,Nat.le_refl _,by omega,h0⟩
 case round =>
  obtain ⟨n,t,rfl,hn1,hnt,hJs⟩:=hrel
  obtain ⟨c1,c2⟩:=hJc n t wr hJs
  have hcut:=cut_any t m wr (by omega) c2
  have hmore:=cutNL_len t
  obtain ⟨line,rest,more,hc⟩:∃ line rest more,cutNL t=(line,rest,more):=⟨_,_,_,rfl⟩
  have hy0:=fun k=>hY n t _ (hJd n t wr k hJs) hn1 hnt
  have hkj:=hKJ n t
  have hkk:=hK n t
  rw [hc] at hcut hmore
  simp only [hc] at hy0 hkj
  have HCUT:=hid hcut
  have HC:=hid hc
  have HM:=hid hmore
  have HY:=hid hy0
  have HKJ:=hid hkj
  have HK:=hid hkk
  clear hcut hc hmore hy0 hkj hkk hY hK hKJ hJc
  gi_wp2_with fail
  refine ⟨trivial,?_⟩
  refine (callsIn_wide.2 HCUT.out).mono ?_
  rintro e w1 ⟨rfl,nd,rfl⟩
  obtain ⟨fn,tmps,assign,body,hy,hR⟩:=HY.out nd
  have HR:=hid hR
  clear hR HY
  gi_wp2
  refine HR.out.mono ?_
  rintro e W3 (⟨rfl,hk3⟩ | ⟨rfl,hx3⟩)
  ·obtain ⟨c3,f3⟩:=HK.out W3 hk3
   cases more with
   | true =>
    have hlt:=HM.out rfl
    have hj:=HKJ.out W3 hk3 rfl
    have HJ:=hid hj
    clear hj HKJ HK
    gi_wp2
    go_roundw
    case rel=>exact ⟨n+1,rest,by go_num,by omega,by omega,HJ.out⟩
    case measure=>simp [intOf];omega
   | false =>
    gi_wp2
    refine bodyPost_ret (results_none rfl _ _ _) rfl ?_
    exact ⟨⟨_,rfl⟩,.inl ⟨n,t,hk3,by rw [HC.out]⟩⟩
  ·gi_wp2
   refine bodyPost_ret (results_none rfl _ _ _) rfl ?_
   exact ⟨⟨_,rfl⟩,.inr hx3⟩
def Ab (B:Nat) (I:World→Prop):Prop :=
 ∀ W W' row,I W→W.grownBy W' row→(∀ r,row=some r→B≤r∧∃ o:Obj,W.heap[r]?=some o∧o.isCells=false)→I W'
theorem Ab.putObj {B:Nat} {I:World→Prop} (h:Ab B I) {W:World} {l:Nat} {o:Obj} (o':Obj) (hs:I W) (hB:B≤l) (hl:W.heap[l]?=some o) (ho:o.isCells=false):I (W.putObj l o') :=
 h W _ (some l) hs (grownBy_putObj' W l o') (fun r e=>by cases e;exact ⟨hB,o,hl,ho⟩)
theorem Ab.drewN {B:Nat} {I:World→Prop} (h:Ab B I) {W:World} (k:Nat) (hs:I W):I (W.drewN k) :=
 h W _ none hs ⟨rfl,rfl,rfl,Nat.le_refl _,fun _ _ _=>rfl⟩ (fun r e=>by cases e)
def LPost (B:Nat) (K Ix:World→Prop) (W:World):Exit→Act→World→Prop
 | .normal,_,W'=>(W'.heap[B]?=W.heap[B]?∧W'.heap[B+1]?=W.heap[B+1]?)∧K W'
 | .ret,_,W'=>(W'.heap[B]?=W.heap[B]?∧W'.heap[B+1]?=W.heap[B+1]?)∧Ix W'
 | _,_,_=>False
theorem wp_range_lines {g:Operand} {ps:Array Tmp} {assign body:Code} {Q:Exit→Act→World→Prop} {a:Act} {w:World}
  (bs:Nat) (m:Int) (s:Bs) (hs:s.length≤65536)
  (hg:a.eval g = .func (.func 80) #[] #[.pointer (some ⟨bs,0,none⟩)]) (hps:ps.size=2)
  (I K:Nat→Bs→World→Prop) (Ix:World→Prop) (hIa:∀ n t,Ab w.heap.size (I n t)) (hKa:∀ n t,Ab w.heap.size (K n t)) (hXa:Ab w.heap.size Ix)
  (hIc:∀ n t W,I n t W→W.cell? ⟨bs,0,none⟩=some (.string ⟨t.toArray⟩)∧W.cell? ⟨2,0,none⟩=some (.int .i64 m))
  (hKc:∀ n t W,K n t W→W.cell? ⟨bs,0,none⟩=some (.string ⟨t.toArray⟩)∧W.frozen? ⟨bs,0,none⟩=false)
  (hKI:∀ n t W,K n t W→(cutNL t).2.2=true→I (n+1) (cutNL t).2.1 (W.setCell ⟨bs,0,none⟩ (.string ⟨(cutNL t).2.1.toArray⟩)))
  (hbs:bs<w.heap.size) (h0:I 1 s w) (a₁:Nat→Bs→Act)
  (hassign:∀ (l n:Nat) (t:Bs) (W:World) (K:Act→World→Prop),K (a₁ n t) W →
   assign.wpIn (Fence.wide.inRound l) 7 Tryd.prog (Exit.then K (fun _ _ _=>False)) { tmps:=(ps.zip #[.int .i64 n,.string ⟨t.toArray⟩]).foldl (fun t (p,v)=>t.setIfInBounds p v) a.tmps,defers:=[] } W)
  (hbody:∀ (l n:Nat) (t:Bs) (W:World),I n t W→1≤n→n+t.length≤65537→w.heap.size+1<W.heap.size →
   body.wpIn (Fence.wide.inRound l) 7 Tryd.prog (LPost w.heap.size (K n t) Ix W) (a₁ n (cutNL t).1) W)
  (hdone:∀ (D n:Nat) (t:Bs) (W:World),w.heap.size≤D→K n t W→(cutNL t).2.2=false→W.heap[D]?=some (.deferred (some []))→Q .normal { a with defers:={ target := .collected D,args:=#[] } :: a.defers } W)
  (hstop:∀ (D:Nat) (W:World),w.heap.size≤D→Ix W→W.heap[D]?=some (.deferred (some []))→Q .ret { a with defers:={ target := .collected D,args:=#[] } :: a.defers } W) :
  (Code.rangeFunc g ps assign body).wpIn Fence.wide 9 Tryd.prog Q a w:=by
 refine wpIn_rangeFunc ?_
 intro fn _
 show ∃ l mark w₁ d w₁' f args w₂,(Instr.enterLoop fn a.tmps ps assign body none).run Tryd.prog w=_∧_
 obtain ⟨rec,hrec⟩:∃ rec:LoopState→Option Code→Loop,rec=fun st pe=>{ state:=st,pending:=pe,fn,tmps:=a.tmps,params:=ps,assign,body,defers:=w.heap.size }:=⟨_,rfl⟩
 obtain ⟨W1,hW1⟩:∃ W1,(w.alloc (.deferred (some []))).alloc (.loop (rec .ready none))=W1:=⟨_,rfl⟩
 have hL1:W1.heap[w.heap.size+1]?=some (.loop (rec .ready none)):=by rw [← hW1,heap_al,if_pos (by simp)]
 have hK1:W1.heap[w.heap.size]?=some (.deferred (some [])):=by rw [← hW1,heap_al,if_neg (by simp),heap_al,if_pos rfl]
 have hI1:I 1 s W1:=by
  rw [← hW1]
  exact hIa 1 s _ _ none (hIa 1 s _ _ none h0 (World.grownBy_alloc _ _ none) (fun r e=>by cases e)) (World.grownBy_alloc _ _ none) (fun r e=>by cases e)
 have eg:∀ args (w:World),(callFunc 80 args).run Tryd.prog w = .ok (.enter 80 args) w:=enters_of Tryd.func80 (by kernel_rfl) rfl
 refine ⟨w.heap.size+1,[{ target := .collected w.heap.size,args:=#[] }],W1,{ target := .fn (.func 80) #[.pointer (some ⟨bs,0,none⟩)],args:=#[.func (.yield (w.heap.size+1)) #[] #[]] },W1,80,
  #[.func (.yield (w.heap.size+1)) #[] #[]]++#[.pointer (some ⟨bs,0,none⟩)],W1,?_,?_,?_,?_,(fun _=>by omega),?_⟩
 ·rw [← hW1,hrec];exact run_enterLoop_outer _ _ _ _ _
 ·simp only [resolve,hg]
  simp [go_sem]
 ·intro f' _;trivial
 ·simp [invoke,go_sem,eg]
 ·refine (lines1_in (9 - 1) (w.heap.size+1) bs (by omega) m
   (fun n t W=>I n t W∧W.heap[w.heap.size+1]?=some (.loop (rec .ready none))∧W.heap[w.heap.size]?=some (.deferred (some [])))
   (fun n t W=>K n t W∧W.heap[w.heap.size+1]?=some (.loop (rec .ready none))∧W.heap[w.heap.size]?=some (.deferred (some [])))
   (fun W=>Ix W∧W.heap[w.heap.size+1]?=some (.loop (rec .done (some .ret)))∧W.heap[w.heap.size]?=some (.deferred (some [])))
   (fun n t W h=>hIc n t W h.1) (fun n t W k h=>⟨(hIa n t).drewN k h.1,h.2⟩) ?_ (fun n t W h=>hKc n t W h.1)
   (fun n t W h hm=>⟨hKI n t W h.1 hm,(Below.heap_setCell _ _ _ _ (by show w.heap.size+1 ≠ bs;omega)).trans h.2.1,(Below.heap_setCell _ _ _ _ (by show w.heap.size ≠ bs;omega)).trans h.2.2⟩)
   s hs W1 ⟨hI1,hL1,hK1⟩).mono ?_
  ·rintro n t W ⟨hi,hl,hd⟩ hn1 hnt
   have hlt:w.heap.size+1<W.heap.size:=(Array.getElem?_eq_some_iff.1 hl).1
   have hy:=run_yield (P:=Tryd.prog) (args:=#[.int .i64 n,.string ⟨(cutNL t).1.toArray⟩]) hl (by rw [hrec];exact hps.symm)
   rw [hrec] at hy
   refine ⟨fn,_,assign,body,hy,roundIn_of_wpIn trivial (hassign _ n (cutNL t).1 W _ ⟨_,run_beginRound hl (by rw [hrec]),?_⟩)⟩
   have hl2:(W.putObj (w.heap.size+1) (.loop { rec .ready none with state := .busy })).heap[w.heap.size+1]?=some (.loop { rec .ready none with state := .busy }):=World.putObj_heap_same hlt
   have hd2:(W.putObj (w.heap.size+1) (.loop { rec .ready none with state := .busy })).heap[w.heap.size]?=some (.deferred (some [])):=(World.putObj_heap_other (by omega)).trans hd
   have hsz2:w.heap.size+1<(W.putObj (w.heap.size+1) (.loop { rec .ready none with state := .busy })).heap.size:=(Array.getElem?_eq_some_iff.1 hl2).1
   refine wpIn_mono (hbody _ n t _ ((hIa n t).putObj _ hi (by omega) hl rfl) hn1 hnt hsz2) ?_
   rintro e a3 W3 hp
   cases e with
   | normal =>
    obtain ⟨hk3,hi3⟩:=hp
    have hl3:=hk3.2.trans hl2
    have hd3:=hk3.1.trans hd2
    have hr:=run_endRound (P:=Tryd.prog) none hl3
    rw [hrec] at hr
    refine ⟨_,_,hr,.inl ⟨rfl,(hKa n t).putObj _ hi3 (by omega) hl3 rfl,?_,?_⟩⟩
    ·rw [hrec];exact World.putObj_heap_same (Array.getElem?_eq_some_iff.1 hl3).1
    ·exact (World.putObj_heap_other (by omega)).trans hd3
   | ret =>
    obtain ⟨hk3,hi3⟩:=hp
    have hl3:=hk3.2.trans hl2
    have hd3:=hk3.1.trans hd2
    have hr:=run_endRound (P:=Tryd.prog) (some .ret) hl3
    rw [hrec] at hr
    refine ⟨_,_,hr,.inr ⟨rfl,hXa.putObj _ hi3 (by omega) hl3 rfl,?_,?_⟩⟩
    ·rw [hrec];exact World.putObj_heap_same (Array.getElem?_eq_some_iff.1 hl3).1
    ·exact (World.putObj_heap_other (by omega)).trans hd3
   | _=>exact hp.elim
  ·rintro e W2 ⟨⟨v,rfl⟩,(⟨n,t,⟨hi,hl,hd⟩,hm⟩ | ⟨hi,hl,hd⟩)⟩
   ·exact ⟨none,_,by have:=run_endLoop (P:=Tryd.prog) hl (by rw [hrec];simp);rw [hrec] at this;exact this,
     hdone _ n t _ (Nat.le_refl _) ((hKa n t).putObj _ hi (by omega) hl rfl) hm ((World.putObj_heap_other (by omega)).trans hd)⟩
   ·exact ⟨some .ret,_,by have:=run_endLoop (P:=Tryd.prog) hl (by rw [hrec];simp);rw [hrec] at this;exact this,
     wpIn_ret (hstop _ _ (Nat.le_refl _) (hXa.putObj _ hi (by omega) hl rfl) ((World.putObj_heap_other (by omega)).trans hd))⟩
end Go.Proofs.YtbijamcoibonkaaDoor
