/-
 Package token: the walk of Lines.
-/
import Derived.Test.YtbijamcoibonkaaDoorCSTkL
namespace Go.Proofs.YtbijamcoibonkaaDoor
set_option linter.unusedSimpArgs false
set_option linter.unusedVariables false
open Go.RowKit Go.Shelf
attribute [local go_sem] Oper.semAt_some
def linesR (s:Bs):Except (Nat × Nat × Int) (List (List Wd)) :=
 if 65536<s.length then .error (1,1,5)
 else match tok s with
  | .error (L,C) => .error (L,C,4)
  | .ok o => .ok o
def LinesPost (s:Bs) (w:World) (e:Ending) (w':World):Prop :=
 Below w.heap.size w w'∧match linesR s with
  | .error (L,C,c)=>e = .returned (.tuple #[.slice none 0 0,.agg #[.int .i64 (L:Int),.int .i64 (C:Int)],.int .i64 c])
  | .ok out=>∃ v,e = .returned (.tuple #[v,.agg #[.int .i64 0,.int .i64 0],.int .i64 0])∧WLL (fun k=>w.heap.size≤k∧Soft w' k) w' v out∧WLS w.heap.size 91 w' v out
structure Five (w:World) (vo:Value) (t:Bs) (m:Int) (W:World):Prop where
 b0:W.heap[w.heap.size]?=some (.cells #[.slice none 0 0] 86 (0,0))
 b1:W.heap[w.heap.size+1]?=some (.cells #[.int .i64 0,.int .i64 0] 42 (0,0))
 b2:W.heap[w.heap.size+1+1]?=some (.cells #[.int .i64 0] 28 (0,0))
 b3:W.heap[w.heap.size+1+1+1]?=some (.cells #[vo] 86 (0,0))
 b4:W.heap[w.heap.size+1+1+1+1]?=some (.cells #[.string ⟨t.toArray⟩] 9 (0,0))
 g:W.cell? ⟨2,0,none⟩=some (.int .i64 m)
 bel:Below w.heap.size w W
def LI (w:World) (m:Int) (s:Bs) (n:Nat) (t:Bs) (W:World):Prop :=
 ∃ vo out,Five w vo t m W∧Acc (w.heap.size+7) 91 97 W vo (.slice none 0 0) out []∧ls n t out=tok s∧out.length+1≤n
def LK (w:World) (m:Int) (s:Bs) (n:Nat) (t:Bs) (W:World):Prop :=
 ∃ vo out,Five w vo t m W∧Acc (w.heap.size+7) 91 97 W vo (.slice none 0 0) out []∧out.length≤n∧n≤65537 ∧
  (if (cutNL t).2.2=true then ls (n+1) (cutNL t).2.1 out else .ok out)=tok s
def LX (w:World) (s:Bs) (W:World):Prop :=
 ∃ L C:Nat,tok s = .error (L,C)∧W.heap[w.heap.size]?=some (.cells #[.slice none 0 0] 86 (0,0))∧W.heap[w.heap.size+1]?=some (.cells #[.int .i64 (L:Int),.int .i64 (C:Int)] 42 (0,0)) ∧
  W.heap[w.heap.size+1+1]?=some (.cells #[.int .i64 4] 28 (0,0))∧Below w.heap.size w W
theorem keep_cells {B k:Nat} {W W':World} {row:Option Nat} {cs:Array Value} {t:TypeId} (h:W.heap[k]?=some (.cells cs t (0,0))) (hg:W.grownBy W' row)
  (hr:∀ r,row=some r→B≤r∧∃ o:Obj,W.heap[r]?=some o∧o.isCells=false):W'.heap[k]?=some (.cells cs t (0,0)):=by
 refine (hg.block k (Array.getElem?_eq_some_iff.1 h).1 fun e=>?_).trans h
 obtain ⟨_,o,ho,hc⟩:=hr k e.symm
 rw [h] at ho
 cases ho
 cases hc
theorem Five.ab {w:World} {vo:Value} {t:Bs} {m:Int} {W W':World} {row:Option Nat} {B:Nat} (h:Five w vo t m W) (hB:w.heap.size≤B) (h0:2<w.heap.size) (hg:W.grownBy W' row)
  (hr:∀ r,row=some r→B≤r∧∃ o:Obj,W.heap[r]?=some o∧o.isCells=false):Five w vo t m W':=by
 refine ⟨keep_cells h.b0 hg hr,keep_cells h.b1 hg hr,keep_cells h.b2 hg hr,keep_cells h.b3 hg hr,keep_cells h.b4 hg hr,?_,h.bel.grown hg h.bel.size (fun k e=>Nat.le_trans hB (hr k e).1)⟩
 exact hg.cell h.g (fun e=>by have:=(hr 2 e.symm).1;omega)
theorem ab_LI (w:World) (m:Int) (s:Bs) (h0:2<w.heap.size) (n:Nat) (t:Bs):Ab (w.heap.size+5) (LI w m s n t):=by
 rintro W W' row ⟨vo,out,h5,ha,hl⟩ hg hr
 exact ⟨vo,out,h5.ab (by omega) h0 hg hr,ha.grown hg fun r e=>(hr r e).2,hl⟩
theorem ab_LK (w:World) (m:Int) (s:Bs) (h0:2<w.heap.size) (n:Nat) (t:Bs):Ab (w.heap.size+5) (LK w m s n t):=by
 rintro W W' row ⟨vo,out,h5,ha,hl⟩ hg hr
 exact ⟨vo,out,h5.ab (by omega) h0 hg hr,ha.grown hg fun r e=>(hr r e).2,hl⟩
theorem ab_LX (w:World) (s:Bs):Ab (w.heap.size+5) (LX w s):=by
 rintro W W' row ⟨L,C,e,h1,h2,h3,hb⟩ hg hr
 exact ⟨L,C,e,keep_cells h1 hg hr,keep_cells h2 hg hr,keep_cells h3 hg hr,hb.grown hg hb.size (fun k e=>Nat.le_trans (by omega) (hr k e).1)⟩
theorem heap_setCell_at {W:World} {k:Nat} {t:TypeId} (i:Nat) (v:Value) {cs:Array Value} (h:W.heap[k]?=some (.cells cs t (0,0))) :
  (W.setCell ⟨k,i,none⟩ v).heap[k]?=some (.cells (cs.setIfInBounds i v) t (0,0)):=by
 obtain ⟨hlt,hh⟩:=Array.getElem?_eq_some_iff.1 h
 show (W.heap.modify k _)[k]?=_
 rw [Array.getElem?_modify,if_pos rfl,h]
 rfl
theorem LK.next {w:World} {m:Int} {s:Bs} {n:Nat} {t:Bs} {W:World} (h0:2<w.heap.size) (h:LK w m s n t W) (hm:(cutNL t).2.2=true) :
  LI w m s (n+1) (cutNL t).2.1 (W.setCell ⟨w.heap.size+1+1+1+1,0,none⟩ (.string ⟨(cutNL t).2.1.toArray⟩)):=by
 obtain ⟨vo,out,h5,ha,hn,_,hl⟩:=h
 rw [if_pos hm] at hl
 have hf:∀ k,k ≠ w.heap.size+1+1+1+1→(W.setCell ⟨w.heap.size+1+1+1+1,0,none⟩ (.string ⟨(cutNL t).2.1.toArray⟩)).heap[k]?=W.heap[k]?:=fun k hk=>Below.heap_setCell _ _ _ _ hk
 refine ⟨vo,out,⟨(hf _ (by omega)).trans h5.b0,(hf _ (by omega)).trans h5.b1,(hf _ (by omega)).trans h5.b2,(hf _ (by omega)).trans h5.b3,?_,(World.cell?_of_block (a:=⟨2,0,none⟩) (hf 2 (by omega))).trans h5.g,h5.bel.setCell (by show w.heap.size≤w.heap.size+1+1+1+1;omega) _⟩,ha.keep fun k hk _=>hf k (by omega),hl,by omega⟩
 have hlt:=(Array.getElem?_eq_some_iff.1 h5.b4).1
 exact heap_setCell_at 0 _ h5.b4
set_option maxRecDepth 100000 in
set_option maxHeartbeats 2000000 in
theorem lines_long (s:Bs) (w:World) (hbig:65536<s.length) :
  Calls Tryd.prog 47 #[.string ⟨s.toArray⟩] w fun e w'=>LinesPost s w e w':=by
 have e:linesR s = .error (1,1,5):=by unfold linesR;rw [if_pos hbig]
 have HE:=hid e
 clear e
 go_enter Tryd.func47,Tryd.ntmps47
 go_wp2
 refine bodyPost_ret (v := .tuple #[.slice none 0 0,.agg #[.int .i64 1,.int .i64 1],.int .i64 5]) (by simp [results,Tryd.results47,go_sem]) rfl ?_
 unfold LinesPost
 rw [HE.out]
 exact ⟨(((Below.refl _ _).alloc (Nat.le_refl _) _).alloc (by simp) _).alloc (by simp only [World.size_alloc];omega) _,rfl⟩
theorem lines0_any (s:Bs) (w:World) :
  Calls Tryd.prog 68 #[.string ⟨s.toArray⟩] w fun e w' =>
   e = .returned (.func (.func 80) #[] #[.pointer (some ⟨w.heap.size,0,none⟩)])∧w.alloc (.cells #[.string ⟨s.toArray⟩] 9)=w':=by
 go_enter Tryd.func68,Tryd.ntmps68
 go_wp2
 go_ret
 exact ⟨rfl,rfl⟩
theorem cutNL_le:∀ t:Bs,(cutNL t).1.length≤t.length
 | []=>Nat.le_refl _
 | c :: r=>by
  unfold cutNL
  split
  ·simp
  ·have:=cutNL_le r;simp only [List.length_cons];omega
theorem ls_eq (n:Nat) (t:Bs) (out:List (List Wd)):ls n t out =
  match lt n (cutNL t).1 0 none [] with
  | .error i => .error (n,i+1)
  | .ok ws=>if (cutNL t).2.2=true then ls (n+1) (cutNL t).2.1 (addL out ws) else .ok (addL out ws):=by
 conv=>lhs;unfold ls
 cases lt n (cutNL t).1 0 none [] with
 | error i=>rfl
 | ok ws=>rfl
theorem Five.stay {w:World} {m:Int} {s:Bs} {n:Nat} {t:Bs} {W:World} {vo vw:Value} {out:List (List Wd)} (h5:Five w vo t m W) (ha:Acc (w.heap.size+7) 91 97 W vo vw out [])
  (hl:ls n t out=tok s) (hn:out.length+1≤n) (hn2:n≤65537) (e:lt n (cutNL t).1 0 none [] = .ok []):LK w m s n t W:=by
 refine ⟨vo,out,h5,ha.drop,by omega,hn2,?_⟩
 rw [← hl,ls_eq n t out,e]
 rfl
theorem LK.add {w:World} {m:Int} {s:Bs} {n:Nat} {t:Bs} {W w4:World} {vo vo' vw:Value} {out:List (List Wd)} {ws:List Wd} {o:Obj} {us:List Value} (h0:2<w.heap.size) (h5:Five w vo t m W) (ha:Acc (w.heap.size+7) 91 97 W vo vw out ws) (hw:ws ≠ [])
  (hl:ls n t out=tok s) (hn:out.length+1≤n) (hn2:n≤65537) (e:lt n (cutNL t).1 0 none [] = .ok ws)
  (hg:(W.alloc o).grownBy w4 vo.ownBlock) (hus:W.ownsRow (w.heap.size+7) 91 1 vo out.length us) (ho:w4.ownsRow (w.heap.size+7) 91 1 vo' (out.length+1) (us++[vw])) (hv:vo'.ownBlock=vo.ownBlock∨vo'.ownBlock=some (W.alloc o).heap.size)
  (hs:w.heap.size+7≤W.heap.size) :
  (∀ k,k<w.heap.size+7→k ≠ w.heap.size+1+1+1→(w4.setCell ⟨w.heap.size+1+1+1,0,none⟩ vo').heap[k]?=W.heap[k]?)∧LK w m s n t (w4.setCell ⟨w.heap.size+1+1+1,0,none⟩ vo'):=by
 have hga:=(World.grownBy_alloc W o vo.ownBlock).trans hg
 have hb:∀ k,k<w.heap.size+7→w4.heap[k]?=W.heap[k]?:=fun k hk=>hga.block k (by omega) fun e=>by have:=(hus.lt k e.symm).1;omega
 have hf:∀ k,k ≠ w.heap.size+1+1+1→(w4.setCell ⟨w.heap.size+1+1+1,0,none⟩ vo').heap[k]?=w4.heap[k]?:=fun k hk=>Below.heap_setCell _ _ _ _ hk
 refine ⟨fun k hk hk'=>(hf k hk').trans (hb k hk),vo',out++[ws],?_,?_,by simp;omega,hn2,?_⟩
 ·refine ⟨(hf _ (by omega)).trans ((hb _ (by omega)).trans h5.b0),(hf _ (by omega)).trans ((hb _ (by omega)).trans h5.b1),(hf _ (by omega)).trans ((hb _ (by omega)).trans h5.b2),heap_setCell_at 0 _ ((hb _ (by omega)).trans h5.b3),(hf _ (by omega)).trans ((hb _ (by omega)).trans h5.b4),
   (World.cell?_of_block (a:=⟨2,0,none⟩) ((hf 2 (by omega)).trans (hb 2 (by omega)))).trans h5.g,?_⟩
  exact (h5.bel.grown hga (by omega) (fun k hk=>by have:=(hus.lt k hk).1;omega)).setCell (by show w.heap.size≤w.heap.size+1+1+1;omega) _
 ·exact (ha.line hg hus ho hv).keep fun k hk _=>hf k (by omega)
 ·rw [← hl,ls_eq n t out,e]
  simp only [addL,if_neg hw]
theorem info_Word:(Tryd.prog.info? 97).map (fun i=>(i.zero,i.size,i.bytes))=some (some (.agg #[.string ⟨#[]⟩,.int .i64 0,.int .i64 0]),3,32):=by kernel_rfl
theorem info_Words:(Tryd.prog.info? 91).map (fun i=>(i.zero,i.size,i.bytes))=some (some (.slice none 0 0),1,24):=by kernel_rfl
theorem cell_lit1 {W:World} {k:Nat} {v:Value} {t:TypeId} (h:W.heap[k]?=some (.cells #[v] t (0,0))):W.cell? ⟨k,0,none⟩=some v∧W.frozen? ⟨k,0,none⟩=false :=
 ⟨by rw [cell_of_row W k 0 _ _ _ h];rfl,by simp [World.frozen?,h]⟩
theorem cell_lit2 {W:World} {k:Nat} {v u:Value} {t:TypeId} (h:W.heap[k]?=some (.cells #[v,u] t (0,0))):W.cell? ⟨k,0,none⟩=some v∧W.cell? ⟨k,1,none⟩=some u∧W.frozen? ⟨k,0,none⟩=false∧W.frozen? ⟨k,1,none⟩=false :=
 ⟨by rw [cell_of_row W k 0 _ _ _ h];rfl,by rw [cell_of_row W k 1 _ _ _ h];rfl,by simp [World.frozen?,h],by simp [World.frozen?,h]⟩
theorem cell_grown {W w6:World} {o:Obj} {row:Option Nat} {k:Nat} {v:Value} {t:TypeId} (h:W.heap[k]?=some (.cells #[v] t (0,0))) (hg:(W.alloc o).grownBy w6 row) (hne:row ≠ some k) :
  w6.cell? ⟨k,0,none⟩=some v∧w6.frozen? ⟨k,0,none⟩=false:=by
 have hlt:=(Array.getElem?_eq_some_iff.1 h).1
 have hga:=(World.grownBy_alloc W o row).trans hg
 exact cell_lit1 ((hga.block k hlt fun e=>hne e.symm).trans h)
theorem Five.moved {w:World} {vo:Value} {t:Bs} {m:Int} {W wo:World} (h:Five w vo t m W) (h0:2<w.heap.size) (hkb:∀ k,k<w.heap.size+7→wo.heap[k]?=W.heap[k]?) (hbel:Below w.heap.size w wo):Five w vo t m wo :=
 ⟨(hkb _ (by omega)).trans h.b0,(hkb _ (by omega)).trans h.b1,(hkb _ (by omega)).trans h.b2,(hkb _ (by omega)).trans h.b3,(hkb _ (by omega)).trans h.b4,(World.cell?_of_block (a:=⟨2,0,none⟩) (hkb 2 (by omega))).trans h.g,hbel⟩
theorem Five.four {w:World} {vo:Value} {t:Bs} {m:Int} {W:World} (h:Five w vo t m W) (v:Value) (a b c:Int) :
  ((((W.setCell ⟨w.heap.size,0,none⟩ v).setCell ⟨w.heap.size+1,0,none⟩ (.int .i64 a)).setCell ⟨w.heap.size+1,1,none⟩ (.int .i64 b)).setCell ⟨w.heap.size+1+1,0,none⟩ (.int .i64 c)).heap[w.heap.size]?=some (.cells #[v] 86 (0,0)) ∧
  ((((W.setCell ⟨w.heap.size,0,none⟩ v).setCell ⟨w.heap.size+1,0,none⟩ (.int .i64 a)).setCell ⟨w.heap.size+1,1,none⟩ (.int .i64 b)).setCell ⟨w.heap.size+1+1,0,none⟩ (.int .i64 c)).heap[w.heap.size+1]?=some (.cells #[.int .i64 a,.int .i64 b] 42 (0,0)) ∧
  ((((W.setCell ⟨w.heap.size,0,none⟩ v).setCell ⟨w.heap.size+1,0,none⟩ (.int .i64 a)).setCell ⟨w.heap.size+1,1,none⟩ (.int .i64 b)).setCell ⟨w.heap.size+1+1,0,none⟩ (.int .i64 c)).heap[w.heap.size+1+1]?=some (.cells #[.int .i64 c] 28 (0,0)) ∧
  ∀ k,w.heap.size+1+1<k→((((W.setCell ⟨w.heap.size,0,none⟩ v).setCell ⟨w.heap.size+1,0,none⟩ (.int .i64 a)).setCell ⟨w.heap.size+1,1,none⟩ (.int .i64 b)).setCell ⟨w.heap.size+1+1,0,none⟩ (.int .i64 c)).heap[k]?=W.heap[k]?:=by
 have f1:∀ (A:World) k i v j,j ≠ k→(A.setCell ⟨k,i,none⟩ v).heap[j]?=A.heap[j]?:=fun A k i v j hj=>Below.heap_setCell _ _ _ _ hj
 refine ⟨?_,?_,?_,fun k hk=>(f1 _ _ _ _ _ (by omega)).trans ((f1 _ _ _ _ _ (by omega)).trans ((f1 _ _ _ _ _ (by omega)).trans (f1 _ _ _ _ _ (by omega))))⟩
 ·exact (f1 _ _ _ _ _ (by omega)).trans ((f1 _ _ _ _ _ (by omega)).trans ((f1 _ _ _ _ _ (by omega)).trans (heap_setCell_at 0 _ h.b0)))
 ·exact (f1 _ _ _ _ _ (by omega)).trans (heap_setCell_at 1 _ (heap_setCell_at 0 _ ((f1 _ _ _ _ _ (by omega)).trans h.b1)))
 ·exact heap_setCell_at 0 _ ((f1 _ _ _ _ _ (by omega)).trans ((f1 _ _ _ _ _ (by omega)).trans ((f1 _ _ _ _ _ (by omega)).trans h.b2)))
theorem Five.bad {w:World} {vo:Value} {t s:Bs} {m:Int} {W:World} {n i:Nat} (h:Five w vo t m W) (e:tok s = .error (n,i+1)) :
  (∀ k,w.heap.size+1+1<k→((((W.setCell ⟨w.heap.size,0,none⟩ (.slice none 0 0)).setCell ⟨w.heap.size+1,0,none⟩ (.int .i64 (n:Int))).setCell ⟨w.heap.size+1,1,none⟩ (.int .i64 (1+(i:Int)))).setCell ⟨w.heap.size+1+1,0,none⟩ (.int .i64 4)).heap[k]?=W.heap[k]?) ∧
   LX w s ((((W.setCell ⟨w.heap.size,0,none⟩ (.slice none 0 0)).setCell ⟨w.heap.size+1,0,none⟩ (.int .i64 (n:Int))).setCell ⟨w.heap.size+1,1,none⟩ (.int .i64 (1+(i:Int)))).setCell ⟨w.heap.size+1+1,0,none⟩ (.int .i64 4)):=by
 have f1:∀ (A:World) k i v j,j ≠ k→(A.setCell ⟨k,i,none⟩ v).heap[j]?=A.heap[j]?:=fun A k i v j hj=>Below.heap_setCell _ _ _ _ hj
 refine ⟨fun k hk=>(f1 _ _ _ _ _ (by omega)).trans ((f1 _ _ _ _ _ (by omega)).trans ((f1 _ _ _ _ _ (by omega)).trans (f1 _ _ _ _ _ (by omega)))),n,i+1,e,?_,?_,?_,?_⟩
 ·exact (f1 _ _ _ _ _ (by omega)).trans ((f1 _ _ _ _ _ (by omega)).trans ((f1 _ _ _ _ _ (by omega)).trans (heap_setCell_at 0 _ h.b0)))
 ·rw [show ((i+1:Nat):Int)=1+(i:Int) by omega]
  exact (f1 _ _ _ _ _ (by omega)).trans (heap_setCell_at 1 _ (heap_setCell_at 0 _ ((f1 _ _ _ _ _ (by omega)).trans h.b1)))
 ·exact heap_setCell_at 0 _ ((f1 _ _ _ _ _ (by omega)).trans ((f1 _ _ _ _ _ (by omega)).trans ((f1 _ _ _ _ _ (by omega)).trans h.b2)))
 ·exact (((h.bel.setCell (by show w.heap.size≤w.heap.size;omega) _).setCell (by show w.heap.size≤w.heap.size+1;omega) _).setCell (by show w.heap.size≤w.heap.size+1;omega) _).setCell (by show w.heap.size≤w.heap.size+1+1;omega) _
theorem Acc.push5 {h eo ew:Nat} {w0 w w':World} {vo vw vw':Value} {out:List (List Wd)} {ws:List Wd} {x:Wd} {o:Obj} (ha:Acc (h+7) eo ew w vo vw out ws) (hs:h+7≤w.heap.size) (hb:Below h w0 w) (hg:(w.alloc o).grownBy w' vw.ownBlock)
  (ho:w'.ownsRow (h+7) ew 3 vw' (ws.length+1) (wflat ws++wcells x)) (hv:vw'.ownBlock=vw.ownBlock∨vw'.ownBlock=some (w.alloc o).heap.size) :
  Acc (h+7) eo ew w' vo vw' out (ws++[x])∧(∀ k,k<h+7→w'.heap[k]?=w.heap[k]?)∧w.heap.size≤w'.heap.size∧Below h w0 w':=by
 have hga:=(World.grownBy_alloc w o vw.ownBlock).trans hg
 exact ⟨ha.push hg ho hv,fun k hk=>hga.block k (by omega) fun e=>by have:=(ha.words.lt k e.symm).1;omega,hga.size,hb.grown hga (by omega) (fun k e=>by have:=(ha.words.lt k e).1;omega)⟩
def CurIs (sb:ByteArray) (i:Nat) (cur:Option (Bs × Nat)) (fr:Value):Prop :=
 (cur=none∧fr = .int .i64 (-1))∨∃ f,f<i∧fr = .int .i64 (f:Int)∧cur=some ((sb.extract f i).data.toList,f+1)
theorem extract_toList (sb:ByteArray) (f i:Nat):(sb.extract f i).data.toList=(sb.data.toList.drop f).take (i - f):=by
 rw [Lib.extract_data]
theorem extract_snoc (sb:ByteArray) (f i:Nat) (h:f≤i) (hi:i<sb.size):(sb.extract f (i+1)).data.toList=(sb.extract f i).data.toList++[sb[i]]:=by
 rw [extract_toList,extract_toList,show i+1 - f=(i - f)+1 by omega,List.take_add_one,List.getElem?_drop,show f+(i - f)=i by omega]
 rw [List.getElem?_eq_getElem (show i<sb.data.toList.length from hi)]
 rfl
set_option maxRecDepth 100000 in
set_option maxHeartbeats 2000000 in
theorem lines_any (s:Bs) (m:Int) (w:World) (hm:w.cell? ⟨2,0,none⟩=some (.int .i64 m)) :
  Calls Tryd.prog 47 #[.string ⟨s.toArray⟩] w fun e w'=>LinesPost s w e w':=by
 have h0:2<w.heap.size:=World.block_lt_of_cell? w _ hm
 by_cases hbig:65536<s.length
 ·exact lines_long s w hbig
 ·have hsl:s.length≤65536:=by omega
  clear hbig
  have HM:=hid hm
  clear hm
  refine (callsIn_wide (n:=9)).1 ?_
  refine callsIn_of_wp_marks Tryd.func47 rfl trivial ?_ rfl
  simp only [Tryd.ntmps47,List.size_toArray,List.length_cons,List.length_nil,Nat.reduceAdd,Nat.reduceSub,Array.replicate_succ,Array.replicate_zero,List.push_toArray,List.append_toArray,List.nil_append,List.cons_append]
  gi_wp2_with fail
  refine ⟨trivial,?_⟩
  refine (callsIn_wide.2 (lines0_any s _)).mono ?_
  rintro e w1 ⟨rfl,rfl⟩
  gi_wp2_with fail
  generalize hW0:World.alloc _ _=W0
  have hsz:W0.heap.size=w.heap.size+5:=by rw [← hW0];simp only [World.size_alloc]
  have hb:Below w.heap.size w W0:=by
   rw [← hW0]
   exact (((((Below.refl _ _).alloc (Nat.le_refl _) _).alloc (by simp only [World.size_alloc];omega) _).alloc (by simp only [World.size_alloc];omega) _).alloc (by simp only [World.size_alloc];omega) _).alloc (by simp only [World.size_alloc];omega) _
  have h5:Five w (.slice none 0 0) s m W0:=by
   refine ⟨?_,?_,?_,?_,?_,?_,hb⟩
   ·rw [← hW0];rw [heap_al,if_neg (by simp only [World.size_alloc];omega)];rw [heap_al,if_neg (by simp only [World.size_alloc];omega)];rw [heap_al,if_neg (by simp only [World.size_alloc];omega)];rw [heap_al,if_neg (by simp only [World.size_alloc];omega)];rw [heap_al,if_pos (by simp only [World.size_alloc])]
   ·rw [← hW0];rw [heap_al,if_neg (by simp only [World.size_alloc];omega)];rw [heap_al,if_neg (by simp only [World.size_alloc];omega)];rw [heap_al,if_neg (by simp only [World.size_alloc];omega)];rw [heap_al,if_pos (by simp only [World.size_alloc])]
   ·rw [← hW0];rw [heap_al,if_neg (by simp only [World.size_alloc];omega)];rw [heap_al,if_neg (by simp only [World.size_alloc];omega)];rw [heap_al,if_pos (by simp only [World.size_alloc])]
   ·rw [← hW0];rw [heap_al,if_neg (by simp only [World.size_alloc];omega)];rw [heap_al,if_pos (by simp only [World.size_alloc])]
   ·rw [← hW0];rw [heap_al,if_pos (by simp only [World.size_alloc])]
   ·exact (hb.cell (p:=⟨2,0,none⟩) h0).trans HM.out
  clear hW0
  refine wp_range_lines (w.heap.size+1+1+1+1) m s hsl rfl rfl (LI w m s) (LK w m s) (LX w s) (fun n t=>by rw [hsz];exact ab_LI w m s h0 n t) (fun n t=>by rw [hsz];exact ab_LK w m s h0 n t) (by rw [hsz];exact ab_LX w s)
   (fun n t W ⟨_,_,h5,_⟩=>⟨by rw [cell_of_row W _ 0 _ _ _ h5.b4];rfl,h5.g⟩) (fun n t W ⟨_,_,h5,_⟩=>⟨by rw [cell_of_row W _ 0 _ _ _ h5.b4];rfl,by simp [World.frozen?,h5.b4]⟩)
   (fun n t W h hmo=>h.next h0 hmo) (by omega) ⟨_,[],h5,Acc.nil _ _ _ _,rfl,Nat.le_refl _⟩ ?a1 ?assign ?body ?done ?stop
  case assign =>
   intro l n t W K hK
   gi_wp2
   exact hK
  case body =>
   rintro l n t W ⟨vo,out,h5,ha,hl,hon⟩ hn1 hnt hWs
   obtain ⟨po,co,rfl⟩:∃ p c,vo = .slice p out.length c:=let ⟨_,h⟩:=ha.vs;own_sliceG h
   have hle:=cutNL_le t
   obtain ⟨R0,hR0⟩:∃ R0,lt n (cutNL t).1 0 none []=R0:=⟨_,rfl⟩
   obtain ⟨sb,hsb⟩:∃ sb:ByteArray,(⟨(cutNL t).1.toArray⟩:ByteArray)=sb:=⟨_,rfl⟩
   have hll:(cutNL t).1=sb.data.toList:=by rw [← hsb]
   have hsz2:sb.size≤65536:=by rw [← hsb];show (cutNL t).1.toArray.size≤_;simp;omega
   rw [hsb]
   have hr1:lt n (sb.data.toList.drop 0) 0 none []=R0:=by rw [← hll];exact hR0
   have HR0:=hid hR0;have HR1:=hid hr1;have HLL:=hid hll;have HL:=hid hl;have H5:=hid h5;have HA:=hid ha
   clear hR0 hr1 hll hl hsb hle h5 ha
   gi_wp2_with fail
   refine wpIn_scope ?_
   gi_wp2_with fail
   refine wpIn_label ?_
   gi_wp2_with fail
   gi_loopw [8,9,10] (fun vw fr iv wr=>∃ (i:Nat) (ws:List Wd) (cur:Option (Bs × Nat)),i≤sb.size∧iv = .int .i64 i∧ws.length≤i∧Acc (w.heap.size+7) 91 97 wr (.slice po out.length co) vw out ws∧CurIs sb i cur fr∧lt n (sb.data.toList.drop i) i cur ws=R0 ∧
    (∀ k,k<w.heap.size+7→wr.heap[k]?=W.heap[k]?)∧W.heap.size≤wr.heap.size∧Below w.heap.size w wr) (fun _ _ iv _=>sb.size - (intOf iv).toNat)
   case atStart=>exact ⟨0,[],none,Nat.zero_le _,rfl,Nat.le_refl _,HA.out,.inl ⟨rfl,rfl⟩,HR1.out,fun _ _=>rfl,Nat.le_refl _,H5.out.bel⟩
   case round =>
    obtain ⟨i,ws,cur,hi,rfl,hwl,ha,hcur,hlt,hkb,hws,hbel⟩:=hrel
    obtain ⟨wo,rfl⟩:∃ wo:World,wo=wr:=⟨_,rfl⟩
    obtain ⟨pw,cw,rfl⟩:=own_sliceG ha.words
    have hwo:w.heap.size+7≤wo.heap.size:=by omega
    have h5:Five w (.slice po out.length co) t m wo:=H5.out.moved h0 hkb hbel
    have HA:=hid ha;have H5:=hid h5;have HKB:=hid hkb;have HBEL:=hid hbel
    clear ha h5 hkb hbel
    by_cases hlti:i<sb.size
    ·have hdr:sb.data.toList.drop i=sb[i] :: sb.data.toList.drop (i+1):=List.drop_eq_getElem_cons hlti
     rw [hdr] at hlt
     have e0:((i:Int) == (sb.size:Int))=false:=by simp;omega
     clear hdr
     unfold lt at hlt
     by_cases h35:sb[i]=35
     ·rw [if_pos h35] at hlt
      have e35:((sb[i].toNat:Int) == 35)=true:=by rw [h35];rfl
      have HR:=hid hlt
      clear hlt h35 HR1
      rcases hcur with ⟨rfl,rfl⟩ | ⟨f,hfi,rfl,rfl⟩
      ·by_cases hw0:ws=[]
       ·subst hw0
        have HE:=hid (show lt n (cutNL t).1 0 none [] = .ok [] from by rw [HR0.out,← HR.out];rfl)
        gi_wp2
        exact ⟨⟨HKB.out _ (by omega),HKB.out _ (by omega)⟩,H5.out.stay HA.out HL.out hon (by omega) HE.out⟩
       ·have HE:=hid (show lt n (cutNL t).1 0 none [] = .ok ws from by rw [HR0.out,← HR.out];rfl)
        have hw1:0<ws.length:=List.length_pos_iff.2 hw0
        have HW0:=hid hw0
        obtain ⟨us,hus⟩:=HA.out.vs
        have HUS:=hid hus
        have hc4:=(cell_lit1 H5.out.b3).1
        clear hus hw0
        gi_wp2_with (gi_at_builtin;refine wpListIn_appG _ rfl (.tmp 90) (.tmp 92) 86 rfl (w.heap.size+7) 91 (.slice none 0 0) 1 24 Tryd.underlying86 info_Words rfl (by decide) (.slice po out.length co) out.length _ rfl (HUS.out.alloc _) ⟨wo.heap.size,0,none⟩ 1 1 [.slice pw ws.length cw] rfl rfl (RowR.lit wo [.slice pw ws.length cw] 91 rfl) (by simp [Value.oneCell']) (by omega) (by unfold maxLen;omega) (by rw [World.size_alloc];omega) ?_;intro v6 w6 ho6 hg6 hv6;obtain ⟨p6,c6,rfl⟩:=own_sliceG ho6;have hk6:=LK.add h0 H5.out HA.out HW0.out HL.out hon (by omega) HE.out hg6 HUS.out ho6 hv6 (by omega);have HK6:=hid hk6;obtain ⟨hc6,hf6⟩:=cell_grown H5.out.b3 hg6 (fun e=>by have:=(HUS.out.lt _ e).1;omega);clear ho6 hg6 hv6 hk6)
        exact ⟨⟨(HK6.out.1 _ (by omega) (by omega)).trans (HKB.out _ (by omega)),(HK6.out.1 _ (by omega) (by omega)).trans (HKB.out _ (by omega))⟩,HK6.out.2⟩
      ·have hcells:wcells ((sb.extract f i).data.toList,n,f+1)=[.string (sb.extract f i),.int .i64 n,.int .i64 (1+(f:Int))]:=by
        unfold wcells
        rw [show ((f+1:Nat):Int)=1+(f:Int) by omega]
       have HX:=hid (show RowR (·=wo.heap.size) (wo.alloc (.cells #[.string (sb.extract f i),.int .i64 n,.int .i64 (1+(f:Int))] 97)) (some ⟨wo.heap.size,0,none⟩) (wcells ((sb.extract f i).data.toList,n,f+1)) from by
        rw [hcells];exact RowR.lit wo [.string (sb.extract f i),.int .i64 n,.int .i64 (1+(f:Int))] 97 rfl)
       have HE:=hid (show lt n (cutNL t).1 0 none [] = .ok (ws++[((sb.extract f i).data.toList,n,f+1)]) from by rw [HR0.out,← HR.out];rfl)
       clear hcells
       gi_wp2_with (first | (gi_at_builtin;refine wpListIn_appG _ rfl (.tmp 46) (.tmp 56) 91 rfl (w.heap.size+7) 97 (.agg #[.string ⟨#[]⟩,.int .i64 0,.int .i64 0]) 3 32 Tryd.underlying91 info_Word rfl (by decide) (.slice pw ws.length cw) ws.length _ rfl (HA.out.words.alloc _) ⟨wo.heap.size,0,none⟩ 1 1 (wcells ((sb.extract f i).data.toList,n,f+1)) rfl rfl HX.out (by simp [wcells,Value.oneCell']) (by omega) (by unfold maxLen;omega) (by rw [World.size_alloc];omega) ?_;intro v4 w4 ho4 hg4 hv4;obtain ⟨p4,c4,rfl⟩:=own_sliceG ho4;obtain ⟨hn4,hkb4,hws4,hbel4⟩:=HA.out.push5 hwo HBEL.out hg4 ho4 hv4;have HN:=hid hn4;have H54:=hid (H5.out.moved h0 hkb4 hbel4);have HKB4:=hid (fun k hk=>(hkb4 k hk).trans (HKB.out k hk));have HBEL4:=hid hbel4;obtain ⟨us4,hus4⟩:=hn4.vs;have HUS4:=hid hus4;have hc4:=(cell_lit1 H54.out.b3).1;clear ho4 hg4 hv4 hn4 hkb4 hbel4 hus4) | (gi_at_builtin;refine wpListIn_appG _ rfl (.tmp 90) (.tmp 92) 86 rfl (w.heap.size+7) 91 (.slice none 0 0) 1 24 Tryd.underlying86 info_Words rfl (by decide) (.slice po out.length co) out.length _ rfl (HUS4.out.alloc _) ⟨w4.heap.size,0,none⟩ 1 1 [.slice p4 (ws.length+1) c4] rfl rfl (RowR.lit w4 [.slice p4 (ws.length+1) c4] 91 rfl) (by simp [Value.oneCell']) (by omega) (by unfold maxLen;omega) (by rw [World.size_alloc];omega) ?_;intro v6 w6 ho6 hg6 hv6;obtain ⟨p6,c6,rfl⟩:=own_sliceG ho6;have hk6:=LK.add h0 H54.out HN.out (by simp) HL.out hon (by omega) HE.out hg6 HUS4.out ho6 hv6 (by omega);have HK6:=hid hk6;obtain ⟨hc6,hf6⟩:=cell_grown H54.out.b3 hg6 (fun e=>by have:=(HUS4.out.lt _ e).1;omega);clear ho6 hg6 hv6 hk6))
       exact ⟨⟨(HK6.out.1 _ (by omega) (by omega)).trans (HKB4.out _ (by omega)),(HK6.out.1 _ (by omega) (by omega)).trans (HKB4.out _ (by omega))⟩,HK6.out.2⟩
     ·rw [if_neg h35] at hlt
      have e35:((sb[i].toNat:Int) == 35)=false:=by simp;intro h;exact h35 (UInt8.toNat_inj.1 (by simpa using (by omega:sb[i].toNat=35)))
      clear h35
      by_cases hsp:sepB sb[i]=true
      ·rw [if_pos hsp] at hlt
       have HLT:=hid hlt
       have hsp':sb[i].toNat=32∨sb[i].toNat=9:=by
        simp only [sepB,Bool.or_eq_true,beq_iff_eq] at hsp
        rcases hsp with h | h <;> simp [h]
       clear hlt hsp HR1
       rcases hsp' with h32 | h32
       ·have e32:((sb[i].toNat:Int) == 32)=true:=by simp;omega
        have e9:((sb[i].toNat:Int) == 9)=false:=by simp;omega
        clear h32
        rcases hcur with ⟨rfl,rfl⟩ | ⟨f,hfi,rfl,rfl⟩
        ·gi_wp2
         go_roundw
         case rel=>exact ⟨i+1,ws,none,by omega,by go_num,by omega,HA.out,.inl ⟨rfl,rfl⟩,HLT.out,HKB.out,by omega,HBEL.out⟩
         case measure=>simp [intOf];omega
        ·have hcells:wcells ((sb.extract f i).data.toList,n,f+1)=[.string (sb.extract f i),.int .i64 n,.int .i64 (1+(f:Int))]:=by
          unfold wcells
          rw [show ((f+1:Nat):Int)=1+(f:Int) by omega]
         have HX:=hid (show RowR (·=wo.heap.size) (wo.alloc (.cells #[.string (sb.extract f i),.int .i64 n,.int .i64 (1+(f:Int))] 97)) (some ⟨wo.heap.size,0,none⟩) (wcells ((sb.extract f i).data.toList,n,f+1)) from by
          rw [hcells];exact RowR.lit wo [.string (sb.extract f i),.int .i64 n,.int .i64 (1+(f:Int))] 97 rfl)
         clear hcells
         gi_wp2_with (gi_at_builtin;refine wpListIn_appG _ rfl (.tmp 46) (.tmp 56) 91 rfl (w.heap.size+7) 97 (.agg #[.string ⟨#[]⟩,.int .i64 0,.int .i64 0]) 3 32 Tryd.underlying91 info_Word rfl (by decide) (.slice pw ws.length cw) ws.length _ rfl (HA.out.words.alloc _) ⟨wo.heap.size,0,none⟩ 1 1 (wcells ((sb.extract f i).data.toList,n,f+1)) rfl rfl HX.out (by simp [wcells,Value.oneCell']) (by omega) (by unfold maxLen;omega) (by rw [World.size_alloc];omega) ?_;intro v4 w4 ho4 hg4 hv4;obtain ⟨p4,c4,rfl⟩:=own_sliceG ho4;obtain ⟨hn4,hkb4,hws4,hbel4⟩:=HA.out.push5 hwo HBEL.out hg4 ho4 hv4;have HN:=hid hn4;have H54:=hid (H5.out.moved h0 hkb4 hbel4);have HKB4:=hid (fun k hk=>(hkb4 k hk).trans (HKB.out k hk));have HBEL4:=hid hbel4;obtain ⟨us4,hus4⟩:=hn4.vs;have HUS4:=hid hus4;have hc4:=(cell_lit1 H54.out.b3).1;clear ho4 hg4 hv4 hn4 hkb4 hbel4 hus4)
         go_roundw
         case rel=>exact ⟨i+1,ws++[((sb.extract f i).data.toList,n,f+1)],none,by omega,by go_num,by simp;omega,HN.out,.inl ⟨rfl,rfl⟩,HLT.out,HKB4.out,by omega,HBEL4.out⟩
         case measure=>simp [intOf];omega
       ·have e32:((sb[i].toNat:Int) == 32)=false:=by simp;omega
        have e9:((sb[i].toNat:Int) == 9)=true:=by simp;omega
        clear h32
        rcases hcur with ⟨rfl,rfl⟩ | ⟨f,hfi,rfl,rfl⟩
        ·gi_wp2
         go_roundw
         case rel=>exact ⟨i+1,ws,none,by omega,by go_num,by omega,HA.out,.inl ⟨rfl,rfl⟩,HLT.out,HKB.out,by omega,HBEL.out⟩
         case measure=>simp [intOf];omega
        ·have hcells:wcells ((sb.extract f i).data.toList,n,f+1)=[.string (sb.extract f i),.int .i64 n,.int .i64 (1+(f:Int))]:=by
          unfold wcells
          rw [show ((f+1:Nat):Int)=1+(f:Int) by omega]
         have HX:=hid (show RowR (·=wo.heap.size) (wo.alloc (.cells #[.string (sb.extract f i),.int .i64 n,.int .i64 (1+(f:Int))] 97)) (some ⟨wo.heap.size,0,none⟩) (wcells ((sb.extract f i).data.toList,n,f+1)) from by
          rw [hcells];exact RowR.lit wo [.string (sb.extract f i),.int .i64 n,.int .i64 (1+(f:Int))] 97 rfl)
         clear hcells
         gi_wp2_with (gi_at_builtin;refine wpListIn_appG _ rfl (.tmp 46) (.tmp 56) 91 rfl (w.heap.size+7) 97 (.agg #[.string ⟨#[]⟩,.int .i64 0,.int .i64 0]) 3 32 Tryd.underlying91 info_Word rfl (by decide) (.slice pw ws.length cw) ws.length _ rfl (HA.out.words.alloc _) ⟨wo.heap.size,0,none⟩ 1 1 (wcells ((sb.extract f i).data.toList,n,f+1)) rfl rfl HX.out (by simp [wcells,Value.oneCell']) (by omega) (by unfold maxLen;omega) (by rw [World.size_alloc];omega) ?_;intro v4 w4 ho4 hg4 hv4;obtain ⟨p4,c4,rfl⟩:=own_sliceG ho4;obtain ⟨hn4,hkb4,hws4,hbel4⟩:=HA.out.push5 hwo HBEL.out hg4 ho4 hv4;have HN:=hid hn4;have H54:=hid (H5.out.moved h0 hkb4 hbel4);have HKB4:=hid (fun k hk=>(hkb4 k hk).trans (HKB.out k hk));have HBEL4:=hid hbel4;obtain ⟨us4,hus4⟩:=hn4.vs;have HUS4:=hid hus4;have hc4:=(cell_lit1 H54.out.b3).1;clear ho4 hg4 hv4 hn4 hkb4 hbel4 hus4)
         go_roundw
         case rel=>exact ⟨i+1,ws++[((sb.extract f i).data.toList,n,f+1)],none,by omega,by go_num,by simp;omega,HN.out,.inl ⟨rfl,rfl⟩,HLT.out,HKB4.out,by omega,HBEL4.out⟩
         case measure=>simp [intOf];omega
      ·rw [if_neg hsp] at hlt
       have e32:((sb[i].toNat:Int) == 32)=false:=by
        simp;intro h;apply hsp
        have:sb[i]=32:=UInt8.toNat_inj.1 (by simpa using (by omega:sb[i].toNat=32))
        simp [sepB,this]
       have e9:((sb[i].toNat:Int) == 9)=false:=by
        simp;intro h;apply hsp
        have:sb[i]=9:=UInt8.toNat_inj.1 (by simpa using (by omega:sb[i].toNat=9))
        simp [sepB,this]
       clear hsp
       by_cases hbd:badB sb[i]=true
       ·rw [if_pos hbd] at hlt
        have HE:=hid (show tok s = .error (n,i+1) from by rw [← HL.out,ls_eq n t out,HR0.out,← hlt])
        clear hlt
        have hbd':sb[i].toNat<32∨(32≤sb[i].toNat∧126<sb[i].toNat):=by
         simp only [badB,Bool.or_eq_true,decide_eq_true_eq,UInt8.lt_iff_toNat_lt] at hbd
         simp at hbd;omega
        clear hbd
        rcases hbd' with hb1 | ⟨hb1,hb2⟩
        ·have l1:decide ((sb[i].toNat:Int)<32)=true:=by simp;omega
         obtain ⟨c0,f0⟩:=cell_lit1 H5.out.b0
         obtain ⟨c1,c1',f1,f1'⟩:=cell_lit2 H5.out.b1
         obtain ⟨c2,f2⟩:=cell_lit1 H5.out.b2
         gi_wp2
         obtain ⟨g1,g2⟩:=H5.out.bad HE.out
         exact ⟨⟨(g1 _ (by omega)).trans (HKB.out _ (by omega)),(g1 _ (by omega)).trans (HKB.out _ (by omega))⟩,g2⟩
        ·have l1:decide ((sb[i].toNat:Int)<32)=false:=by simp;omega
         have l2:decide (126<(sb[i].toNat:Int))=true:=by simp;omega
         obtain ⟨c0,f0⟩:=cell_lit1 H5.out.b0
         obtain ⟨c1,c1',f1,f1'⟩:=cell_lit2 H5.out.b1
         obtain ⟨c2,f2⟩:=cell_lit1 H5.out.b2
         gi_wp2
         obtain ⟨g1,g2⟩:=H5.out.bad HE.out
         exact ⟨⟨(g1 _ (by omega)).trans (HKB.out _ (by omega)),(g1 _ (by omega)).trans (HKB.out _ (by omega))⟩,g2⟩
       ·rw [if_neg hbd] at hlt
        have hbd':32≤sb[i].toNat∧sb[i].toNat≤126:=by
         simp only [badB,Bool.or_eq_true,decide_eq_true_eq,UInt8.lt_iff_toNat_lt] at hbd
         simp at hbd;omega
        have l1:decide ((sb[i].toNat:Int)<32)=false:=by simp;omega
        have l2:decide (126<(sb[i].toNat:Int))=false:=by simp;omega
        have HLT:=hid hlt
        clear hbd hbd' hlt
        rcases hcur with ⟨rfl,rfl⟩ | ⟨f,hfi,rfl,rfl⟩
        ·have HCUR:=hid (show CurIs sb (i+1) (grow sb[i] i none) (.int .i64 i) from .inr ⟨i,by omega,rfl,by rw [extract_snoc sb i i (Nat.le_refl _) hlti];simp [grow,extract_toList]⟩)
         gi_wp2
         go_roundw
         case rel=>exact ⟨i+1,ws,_,by omega,by go_num,by omega,HA.out,HCUR.out,HLT.out,HKB.out,by omega,HBEL.out⟩
         case measure=>simp [intOf];omega
        ·have HCUR:=hid (show CurIs sb (i+1) (grow sb[i] i (some ((sb.extract f i).data.toList,f+1))) (.int .i64 f) from .inr ⟨f,by omega,rfl,by rw [extract_snoc sb f i (by omega) hlti];rfl⟩)
         gi_wp2
         go_roundw
         case rel=>exact ⟨i+1,ws,_,by omega,by go_num,by omega,HA.out,HCUR.out,HLT.out,HKB.out,by omega,HBEL.out⟩
         case measure=>simp [intOf];omega
    ·obtain rfl:i=sb.size:=by omega
     have hdr:sb.data.toList.drop sb.size=[]:=List.drop_eq_nil_of_le (Nat.le_refl _)
     rw [hdr] at hlt
     have e0:((sb.size:Int) == (sb.size:Int))=true:=by simp
     have HR:=hid hlt
     clear hdr hlt HR1
     rcases hcur with ⟨rfl,rfl⟩ | ⟨f,hfi,rfl,rfl⟩
     ·by_cases hw0:ws=[]
      ·subst hw0
       have HE:=hid (show lt n (cutNL t).1 0 none [] = .ok [] from by rw [HR0.out,← HR.out];rfl)
       gi_wp2
       exact ⟨⟨HKB.out _ (by omega),HKB.out _ (by omega)⟩,H5.out.stay HA.out HL.out hon (by omega) HE.out⟩
      ·have HE:=hid (show lt n (cutNL t).1 0 none [] = .ok ws from by rw [HR0.out,← HR.out];rfl)
       have hw1:0<ws.length:=List.length_pos_iff.2 hw0
       have HW0:=hid hw0
       obtain ⟨us,hus⟩:=HA.out.vs
       have HUS:=hid hus
       have hc4:=(cell_lit1 H5.out.b3).1
       clear hus hw0
       gi_wp2_with (gi_at_builtin;refine wpListIn_appG _ rfl (.tmp 90) (.tmp 92) 86 rfl (w.heap.size+7) 91 (.slice none 0 0) 1 24 Tryd.underlying86 info_Words rfl (by decide) (.slice po out.length co) out.length _ rfl (HUS.out.alloc _) ⟨wo.heap.size,0,none⟩ 1 1 [.slice pw ws.length cw] rfl rfl (RowR.lit wo [.slice pw ws.length cw] 91 rfl) (by simp [Value.oneCell']) (by omega) (by unfold maxLen;omega) (by rw [World.size_alloc];omega) ?_;intro v6 w6 ho6 hg6 hv6;obtain ⟨p6,c6,rfl⟩:=own_sliceG ho6;have hk6:=LK.add h0 H5.out HA.out HW0.out HL.out hon (by omega) HE.out hg6 HUS.out ho6 hv6 (by omega);have HK6:=hid hk6;obtain ⟨hc6,hf6⟩:=cell_grown H5.out.b3 hg6 (fun e=>by have:=(HUS.out.lt _ e).1;omega);clear ho6 hg6 hv6 hk6)
       exact ⟨⟨(HK6.out.1 _ (by omega) (by omega)).trans (HKB.out _ (by omega)),(HK6.out.1 _ (by omega) (by omega)).trans (HKB.out _ (by omega))⟩,HK6.out.2⟩
     ·have hcells:wcells ((sb.extract f sb.size).data.toList,n,f+1)=[.string (sb.extract f sb.size),.int .i64 n,.int .i64 (1+(f:Int))]:=by
       unfold wcells
       rw [show ((f+1:Nat):Int)=1+(f:Int) by omega]
      have HX:=hid (show RowR (·=wo.heap.size) (wo.alloc (.cells #[.string (sb.extract f sb.size),.int .i64 n,.int .i64 (1+(f:Int))] 97)) (some ⟨wo.heap.size,0,none⟩) (wcells ((sb.extract f sb.size).data.toList,n,f+1)) from by
       rw [hcells];exact RowR.lit wo [.string (sb.extract f sb.size),.int .i64 n,.int .i64 (1+(f:Int))] 97 rfl)
      have HE:=hid (show lt n (cutNL t).1 0 none [] = .ok (ws++[((sb.extract f sb.size).data.toList,n,f+1)]) from by rw [HR0.out,← HR.out];rfl)
      clear hcells
      gi_wp2_with (first | (gi_at_builtin;refine wpListIn_appG _ rfl (.tmp 46) (.tmp 56) 91 rfl (w.heap.size+7) 97 (.agg #[.string ⟨#[]⟩,.int .i64 0,.int .i64 0]) 3 32 Tryd.underlying91 info_Word rfl (by decide) (.slice pw ws.length cw) ws.length _ rfl (HA.out.words.alloc _) ⟨wo.heap.size,0,none⟩ 1 1 (wcells ((sb.extract f sb.size).data.toList,n,f+1)) rfl rfl HX.out (by simp [wcells,Value.oneCell']) (by omega) (by unfold maxLen;omega) (by rw [World.size_alloc];omega) ?_;intro v4 w4 ho4 hg4 hv4;obtain ⟨p4,c4,rfl⟩:=own_sliceG ho4;obtain ⟨hn4,hkb4,hws4,hbel4⟩:=HA.out.push5 hwo HBEL.out hg4 ho4 hv4;have HN:=hid hn4;have H54:=hid (H5.out.moved h0 hkb4 hbel4);have HKB4:=hid (fun k hk=>(hkb4 k hk).trans (HKB.out k hk));have HBEL4:=hid hbel4;obtain ⟨us4,hus4⟩:=hn4.vs;have HUS4:=hid hus4;have hc4:=(cell_lit1 H54.out.b3).1;clear ho4 hg4 hv4 hn4 hkb4 hbel4 hus4) | (gi_at_builtin;refine wpListIn_appG _ rfl (.tmp 90) (.tmp 92) 86 rfl (w.heap.size+7) 91 (.slice none 0 0) 1 24 Tryd.underlying86 info_Words rfl (by decide) (.slice po out.length co) out.length _ rfl (HUS4.out.alloc _) ⟨w4.heap.size,0,none⟩ 1 1 [.slice p4 (ws.length+1) c4] rfl rfl (RowR.lit w4 [.slice p4 (ws.length+1) c4] 91 rfl) (by simp [Value.oneCell']) (by omega) (by unfold maxLen;omega) (by rw [World.size_alloc];omega) ?_;intro v6 w6 ho6 hg6 hv6;obtain ⟨p6,c6,rfl⟩:=own_sliceG ho6;have hk6:=LK.add h0 H54.out HN.out (by simp) HL.out hon (by omega) HE.out hg6 HUS4.out ho6 hv6 (by omega);have HK6:=hid hk6;obtain ⟨hc6,hf6⟩:=cell_grown H54.out.b3 hg6 (fun e=>by have:=(HUS4.out.lt _ e).1;omega);clear ho6 hg6 hv6 hk6))
      exact ⟨⟨(HK6.out.1 _ (by omega) (by omega)).trans (HKB4.out _ (by omega)),(HK6.out.1 _ (by omega) (by omega)).trans (HKB4.out _ (by omega))⟩,HK6.out.2⟩
  case done =>
   rintro D n t W hD ⟨vo,out,h5,ha,hn,hn2,hl⟩ hmo hdef
   rw [if_neg (by rw [hmo];decide)] at hl
   obtain ⟨po,co,rfl⟩:∃ p c,vo = .slice p out.length c:=let ⟨_,h⟩:=ha.vs;own_sliceG h
   have HE:=hid (show linesR s = .ok out from by unfold linesR;rw [if_neg (by omega),← hl])
   have hol:out.length≤140737488355328:=by omega
   obtain ⟨c0,f0⟩:=cell_lit1 h5.b0
   obtain ⟨c1,c1',f1,f1'⟩:=cell_lit2 h5.b1
   obtain ⟨c2,f2⟩:=cell_lit1 h5.b2
   obtain ⟨c3,f3⟩:=cell_lit1 h5.b3
   have H5:=hid h5;have HA:=hid ha;have HDEF:=hid hdef
   clear h5 ha hdef hl hmo
   gi_wp2_with fail
   obtain ⟨k0,k1,k2,k9⟩:=H5.out.four (.slice po out.length co) 0 0 0
   have hdef4:=(k9 D (by omega)).trans HDEF.out
   have hb4:=(((H5.out.bel.setCell (p:=⟨w.heap.size,0,none⟩) (Nat.le_refl _) (.slice po out.length co)).setCell (p:=⟨w.heap.size+1,0,none⟩) (by show w.heap.size≤w.heap.size+1;omega) (.int .i64 0)).setCell (p:=⟨w.heap.size+1,1,none⟩) (by show w.heap.size≤w.heap.size+1;omega) (.int .i64 0)).setCell (p:=⟨w.heap.size+1+1,0,none⟩) (by show w.heap.size≤w.heap.size+1+1;omega) (.int .i64 0)
   refine ⟨by simp,.inl ⟨_,_,rfl,run_takeDeferred hdef4,?_⟩⟩
   have hoth:∀ k,k ≠ D→(World.putObj _ D (.deferred none)).heap[k]?=_:=fun k hk=>World.putObj_heap_other (w:=((((W.setCell ⟨w.heap.size,0,none⟩ (.slice po out.length co)).setCell ⟨w.heap.size+1,0,none⟩ (.int .i64 0)).setCell ⟨w.heap.size+1,1,none⟩ (.int .i64 0)).setCell ⟨w.heap.size+1+1,0,none⟩ (.int .i64 0))) (o := .deferred none) hk
   have hb5:=hb4.grown (grownBy_putObj' _ D (.deferred none)) hb4.size (fun k e=>by cases e;omega)
   have hA5:=HA.out.keep (w':=World.putObj ((((W.setCell ⟨w.heap.size,0,none⟩ (.slice po out.length co)).setCell ⟨w.heap.size+1,0,none⟩ (.int .i64 0)).setCell ⟨w.heap.size+1,1,none⟩ (.int .i64 0)).setCell ⟨w.heap.size+1+1,0,none⟩ (.int .i64 0)) D (.deferred none)) (fun k hk hs=>(hoth k (fun e=>by
    obtain ⟨cs,ty,hh⟩:=hs
    rw [e,HDEF.out] at hh
    cases hh)).trans (k9 k (by omega)))
   have g0:=(hoth _ (by omega)).trans k0
   have g1:=(hoth _ (by omega)).trans k1
   have g2:=(hoth _ (by omega)).trans k2
   clear hoth k0 k1 k2 k9 hdef4 hb4 c0 f0 c1 c1' f1 f1' c2 f2 c3 f3
   generalize World.putObj _ D (.deferred none)=W5 at *
   have c0:=(cell_lit1 g0).1
   obtain ⟨c1,c1',_,_⟩:=cell_lit2 g1
   have c2:=(cell_lit1 g2).1
   refine ⟨.tuple #[.slice po out.length co,.agg #[.int .i64 0,.int .i64 0],.int .i64 0],by simp [results,Tryd.results47,go_sem,c0,c1,c1',c2],?_⟩
   unfold LinesPost
   rw [HE.out]
   obtain ⟨vs,q1,q2,q3⟩:=hA5.wll hol
   exact ⟨hb5,_,rfl,hA5.res hol (by omega)⟩
  case stop =>
   rintro D W hD ⟨L,C,e,b0,b1,b2,hb⟩ hdef
   have HE:=hid (show linesR s = .error (L,C,4) from by unfold linesR;rw [if_neg (by omega),e])
   refine ⟨by simp,.inl ⟨_,_,rfl,run_takeDeferred hdef,?_⟩⟩
   have hb5:=hb.grown (grownBy_putObj' _ D (.deferred none)) hb.size (fun k e=>by cases e;omega)
   have g0:=(World.putObj_heap_other (w:=W) (o := .deferred none) (show w.heap.size ≠ D by omega)).trans b0
   have g1:=(World.putObj_heap_other (w:=W) (o := .deferred none) (show w.heap.size+1 ≠ D by omega)).trans b1
   have g2:=(World.putObj_heap_other (w:=W) (o := .deferred none) (show w.heap.size+1+1 ≠ D by omega)).trans b2
   generalize World.putObj _ D (.deferred none)=W5 at *
   have c0:=(cell_lit1 g0).1
   obtain ⟨c1,c1',_,_⟩:=cell_lit2 g1
   have c2:=(cell_lit1 g2).1
   refine ⟨.tuple #[.slice none 0 0,.agg #[.int .i64 L,.int .i64 C],.int .i64 4],by simp [results,Tryd.results47,go_sem,c0,c1,c1',c2],?_⟩
   unfold LinesPost
   rw [HE.out]
   exact ⟨hb5,rfl⟩
end Go.Proofs.YtbijamcoibonkaaDoor
