/-
 Policies, plainly: what the reference reads is what is read (no program in sight).
-/
import Derived.Test.YtbijamcoibonkaaDoorBB28
import Derived.Test.YtbijamcoibonkaaDoorBSPoY
import Derived.Test.YtbijamcoibonkaaDoorBSPnM
import Derived.Test.YtbijamcoibonkaaDoorBSPoI
import Derived.Laws.OwnMore
namespace Go.Proofs.YtbijamcoibonkaaDoor
set_option linter.unusedSimpArgs false
set_option linter.unusedVariables false
open Go.RowKit Go.Shelf
structure RR where
 p:Po
 pos:Int × Int
 e:Int
def rfail (r:RR) (pos:Int × Int) (c:Int):RR:=if r.e=0∧c ≠ 0 then { r with pos:=pos,e:=c } else r
def rword (l:List Wd) (i:Nat) (r:RR):Wd × RR:=if i<l.length then (l.getD i wd0,r) else (wd0,rfail r (wpos (l.headD wd0)) 4)
def rend (l:List Wd) (n:Nat) (r:RR):RR:=if n<l.length then rfail r (wpos (l.getD n wd0)) 4 else r
def rnm (x:Wd × RR):Wd × RR:=(x.1,if x.2.e=0∧nameB x.1.1=false then rfail x.2 (wpos x.1) 4 else x.2)
def rlvQ (x:Wd × RR):Int × RR:=if x.2.p.lv.contains x.1.1 then ((x.2.p.lv.idxOf x.1.1:Int),x.2) else (0,rfail x.2 (wpos x.1) 6)
def rmany (n most:Nat) (l:List Wd) (r:RR):RR:=if most≤n then rfail r (wpos (l.headD wd0)) 5 else r
def setQ (r:RR) (f:Po→Po):RR:={ r with p:=f r.p }
def rnumE (lo hi:Nat) (s:Bs):Int:=if (numR s).2=0∧((numR s).1<lo∨hi<(numR s).1) then 3 else (numR s).2
def rnumber (l:List Wd) (lo hi:Nat) (r:RR):Int × RR :=
 let x:=rword l 1 r
 if x.2.e ≠ 0 then (0,x.2) else ((min (numR x.1.1).1 hi:Nat),rend l 2 (rfail x.2 (wpos x.1) (rnumE lo hi x.1.1)))
structure Sm (i:Nat) (q:RR) (r:RS):Prop where
 e:q.e=r.e
 pos:r.e ≠ 0→q.pos=r.pos
 p:r.e=0→q.p=r.p
 ix:r.e=0→r.ix=i
section
variable {i:Nat} {q:RR} {r:RS} {l:List Wd}
theorem Sm.fail {pos pos':Int × Int} {c:Int} (h:Sm i q r) (hc:c ≠ 0) (hp:r.e=0→pos=pos'):Sm i (rfail q pos c) (failR r pos' c):=by
 unfold rfail failR
 by_cases h0:r.e=0
 ·rw [if_pos ⟨h.e.trans h0,hc⟩,if_pos h0]
  exact ⟨rfl,fun _=>hp h0,fun e=>absurd e hc,fun e=>absurd e hc⟩
 ·rw [if_neg (by rw [h.e];exact fun e=>h0 e.1),if_neg h0];exact h
theorem Sm.stuck {q':RR} {r':RS} {j:Nat} (h:Sm i q r) (h0:r.e ≠ 0) (hq:q'.e=q.e∧q'.pos=q.pos) (hr:r'.e=r.e∧r'.pos=r.pos):Sm j q' r' :=
 ⟨by rw [hq.1,hr.1];exact h.e,fun _=>by rw [hq.2,hr.2];exact h.pos h0,fun e=>absurd (hr.1.symm.trans e) h0,fun e=>absurd (hr.1.symm.trans e) h0⟩
theorem rfail_bad {pos:Int × Int} {c:Int} (h:q.e ≠ 0):rfail q pos c=q:=if_neg fun e=>h e.1
theorem failR_bad {pos:Int × Int} {c:Int} (h:r.e ≠ 0):failR r pos c=r:=if_neg h
theorem Sm.many (h:Sm i q r) {n m n':Nat} (hn:r.e=0→n=n'):Sm i (rmany n m l q) (manyR n' m l r):=by
 by_cases h0:r.e=0
 ·rw [hn h0]
  unfold rmany manyR
  split
  ·exact h.fail (by decide) fun _=>rfl
  ·exact h
 ·have hq:q.e ≠ 0:=by rw [h.e];exact h0
  refine h.stuck h0 ?_ ?_
  ·unfold rmany;split
   ·rw [rfail_bad hq];exact ⟨rfl,rfl⟩
   ·exact ⟨rfl,rfl⟩
  ·unfold manyR;split
   ·rw [failR_bad h0];exact ⟨rfl,rfl⟩
   ·exact ⟨rfl,rfl⟩
theorem Sm.word (h:Sm i q r):Sm (i+1) (rword l i q).2 (nextR l r).2∧((nextR l r).2.e=0→(rword l i q).1=(nextR l r).1):=by
 by_cases h0:r.e=0
 ·have hi:=h.ix h0
  unfold rword nextR
  rw [hi]
  split
  ·exact ⟨⟨h.e,h.pos,h.p,fun _=>rfl⟩,fun _=>rfl⟩
  ·have hf:=h.fail (pos:=wpos (l.headD wd0)) (pos':=wpos (l.headD wd0)) (c:=4) (by decide) fun _=>rfl
   have he:(failR r (wpos (l.headD wd0)) 4).e ≠ 0:=failR_e (by decide)
   exact ⟨hf.stuck he ⟨rfl,rfl⟩ ⟨rfl,rfl⟩,fun e=>absurd e he⟩
 ·have hq:q.e ≠ 0:=by rw [h.e];exact h0
  have h2:(nextR l r).2.e=r.e∧(nextR l r).2.pos=r.pos:=by
   unfold nextR;split
   ·exact ⟨rfl,rfl⟩
   ·show (failR _ _ _).e=_∧_
    rw [failR_bad h0];exact ⟨rfl,rfl⟩
  refine ⟨h.stuck h0 ?_ h2,fun e=>absurd (h2.1.symm.trans e) h0⟩
  unfold rword;split
  ·exact ⟨rfl,rfl⟩
  ·show (rfail _ _ _).e=_∧_
   rw [rfail_bad hq];exact ⟨rfl,rfl⟩
def SmW (i:Nat) (x:Wd × RR) (y:Wd × RS):Prop:=Sm i x.2 y.2∧(y.2.e=0→x.1=y.1)
theorem SmW.nm {x:Wd × RR} {y:Wd × RS} (h:SmW i x y):SmW i (rnm x) (nameQ y):=by
 obtain ⟨h1,h2⟩:=h
 by_cases h0:y.2.e=0
 ·have hw:=h2 h0
  unfold rnm nameQ SmW
  dsimp only
  rw [hw]
  by_cases hb:nameB y.1.1=true
  ·rw [if_neg (by rw [hb];simp),if_pos hb];exact ⟨h1,fun _=>rfl⟩
  ·rw [if_pos ⟨h1.e.trans h0,by simpa using hb⟩,if_neg hb]
   exact ⟨h1.fail (by decide) fun _=>rfl,fun _=>rfl⟩
 ·have hq:x.2.e ≠ 0:=by rw [h1.e];exact h0
  have hr:(nameQ y).2.e=y.2.e∧(nameQ y).2.pos=y.2.pos:=by
   unfold nameQ;dsimp only;split
   ·exact ⟨rfl,rfl⟩
   ·rw [failR_bad h0];exact ⟨rfl,rfl⟩
  refine ⟨h1.stuck h0 ?_ hr,fun e=>absurd (hr.1.symm.trans e) h0⟩
  unfold rnm;dsimp only;split
  ·rw [rfail_bad hq];exact ⟨rfl,rfl⟩
  ·exact ⟨rfl,rfl⟩
def SmI (i:Nat) (x:Int × RR) (y:Int × RS):Prop:=Sm i x.2 y.2∧(y.2.e=0→x.1=y.1)
theorem SmW.lvl {x:Wd × RR} {y:Wd × RS} (h:SmW i x y):SmI i (rlvQ x) (levelQ y):=by
 obtain ⟨h1,h2⟩:=h
 by_cases h0:y.2.e=0
 ·have hw:=h2 h0
  have hp:=h1.p h0
  unfold rlvQ levelQ SmI
  dsimp only
  rw [hw,hp]
  by_cases hc:y.2.p.lv.contains y.1.1=true
  ·rw [if_pos hc,if_pos hc]
   exact ⟨h1,fun _=>by show _=Go.Proofs.YtbijamcoibonkaaDoor.lvl _ _;unfold Go.Proofs.YtbijamcoibonkaaDoor.lvl;rw [if_pos hc]⟩
  ·rw [if_neg hc,if_neg hc]
   exact ⟨h1.fail (by decide) fun _=>rfl,fun e=>absurd e (failR_e (by decide))⟩
 ·have hq:x.2.e ≠ 0:=by rw [h1.e];exact h0
  have hr:(levelQ y).2.e=y.2.e∧(levelQ y).2.pos=y.2.pos:=by
   unfold levelQ;dsimp only;split
   ·exact ⟨rfl,rfl⟩
   ·rw [failR_bad h0];exact ⟨rfl,rfl⟩
  refine ⟨h1.stuck h0 ?_ hr,fun e=>absurd (hr.1.symm.trans e) h0⟩
  unfold rlvQ;split
  ·exact ⟨rfl,rfl⟩
  ·show (rfail _ _ _).e=_∧_
   rw [rfail_bad hq];exact ⟨rfl,rfl⟩
theorem Sm.fin (h:Sm i q r):Sm i (rend l i q) (endR l r):=by
 by_cases h0:r.e=0
 ·unfold rend endR
  rw [h.ix h0]
  split
  ·exact h.fail (by decide) fun _=>rfl
  ·exact h
 ·have hq:q.e ≠ 0:=by rw [h.e];exact h0
  refine h.stuck h0 ?_ ?_
  ·unfold rend;split
   ·rw [rfail_bad hq];exact ⟨rfl,rfl⟩
   ·exact ⟨rfl,rfl⟩
  ·unfold endR;split
   ·rw [failR_bad h0];exact ⟨rfl,rfl⟩
   ·exact ⟨rfl,rfl⟩
theorem Sm.set (h:Sm i q r) {f g:Po→Po} (hf:r.e=0→f q.p=g r.p):Sm i (setQ q f) (setP r g):=⟨h.e,h.pos,hf,h.ix⟩
theorem Sm.num {lo hi:Nat} (h:Sm 1 q r) (hh:hi≤1099511627776):Sm 2 (rnumber l lo hi q).2 (endR l (numberR lo hi l r).2)∧((endR l (numberR lo hi l r).2).e=0→(rnumber l lo hi q).1=(numberR lo hi l r).1):=by
 have hx:=h.word (l:=l)
 unfold rnumber numberR numberQ
 dsimp only
 by_cases h0:(nextR l r).2.e=0
 ·have hw:=hx.2 h0
  rw [if_neg (by rw [hx.1.e];exact fun e=>e h0),hw]
  unfold rnumE
  by_cases h1:(numR (nextR l r).1.1).2=0
  ·rw [if_neg (show ¬ (numR (nextR l r).1.1).2 ≠ 0 from fun e=>e h1)]
   by_cases h2:(numR (nextR l r).1.1).1<lo∨hi<(numR (nextR l r).1.1).1
   ·rw [if_pos ⟨h1,h2⟩,if_pos h2]
    refine ⟨(hx.1.fail (by decide) fun _=>rfl).fin,fun e=>absurd e ?_⟩
    have:(failR (nextR l r).2 (wpos (nextR l r).1) 3).e ≠ 0:=failR_e (by decide)
    unfold endR;split
    ·rw [failR_bad this];exact this
    ·exact this
   ·rw [if_neg (fun e=>h2 e.2),if_neg h2,h1]
    have e0:rfail (rword l 1 q).2 (wpos (nextR l r).1) 0=(rword l 1 q).2:=if_neg fun e=>e.2 rfl
    rw [e0]
    refine ⟨hx.1.fin,fun _=>?_⟩
    rw [IntWalk.i64_in _ (by omega)]
    show ((min _ _:Nat):Int)=_
    rw [Nat.min_eq_left (by omega)]
  ·rw [if_pos (show (numR (nextR l r).1.1).2 ≠ 0 from h1),if_neg (show ¬ ((numR (nextR l r).1.1).2=0∧((numR (nextR l r).1.1).1<lo∨hi<(numR (nextR l r).1.1).1)) from fun e=>h1 e.1)]
   refine ⟨(hx.1.fail h1 fun _=>rfl).fin,fun e=>absurd e ?_⟩
   have:(failR (nextR l r).2 (wpos (nextR l r).1) (numR (nextR l r).1.1).2).e ≠ 0:=failR_e h1
   unfold endR;split
   ·rw [failR_bad this];exact this
   ·exact this
 ·rw [if_pos (by rw [hx.1.e];exact h0)]
  have hr:∀ z:RS,z=(if (numR (nextR l r).1.1).2 ≠ 0 then failR (nextR l r).2 (wpos (nextR l r).1) (numR (nextR l r).1.1).2 else if (numR (nextR l r).1.1).1<lo∨hi<(numR (nextR l r).1.1).1 then failR (nextR l r).2 (wpos (nextR l r).1) 3 else (nextR l r).2)→z=(nextR l r).2:=by
   intro z hz
   rw [hz]
   split
   ·exact failR_bad h0
   ·split
    ·exact failR_bad h0
    ·rfl
  rw [hr _ rfl]
  have he:(endR l (nextR l r).2)=(nextR l r).2:=by
   unfold endR;split
   ·exact failR_bad h0
   ·rfl
  rw [he]
  exact ⟨hx.1,fun e=>absurd e h0⟩
end
section
variable {q:RR} {l:List Wd}
end
end Go.Proofs.YtbijamcoibonkaaDoor
namespace Go.Proofs.YtbijamcoibonkaaDoor
set_option linter.unusedSimpArgs false
set_option linter.unusedVariables false
open Go.RowKit Go.Shelf
attribute [local go_sem] Oper.semAt_some
theorem rows_leP:∀ (f:Nat) (s:Bs),s.length≤f→∀ r ∈ rowsNL s,r.length≤s.length:=by
 intro f
 induction f with
 | zero =>
  intro s hf r hr
  obtain rfl:s=[]:=List.eq_nil_of_length_eq_zero (by omega)
  rw [show rowsNL []=[[]] by rw [rowsNL];rfl,List.mem_singleton] at hr
  rw [hr];exact Nat.le_refl _
 | succ f ih =>
  intro s hf r hr
  obtain ⟨h1,h2⟩:=cutNL_le2 s
  rw [rowsNL] at hr
  rcases List.mem_cons.1 hr with hr | hr
  ·rw [hr];exact h1
  ·split at hr
   ·rename_i hm
    exact Nat.le_trans (ih _ (by have:=cutNL_len s hm;omega) r hr) h2
   ·cases hr
theorem rows_cellsP (s:Bs):Lib.countB ⟨s.toArray⟩ ⟨#[10]⟩+1=(rowsNL s).length∧(Lib.splitB ⟨#[10]⟩ 0 (Lib.countB ⟨s.toArray⟩ ⟨#[10]⟩) ⟨s.toArray⟩).map Value.string=(rowsNL s).map fun r=>Value.string ⟨r.toArray⟩:=by
 have h0:Lib.countB ⟨s.toArray⟩ ⟨#[10]⟩=s.count 10:=by show Lib.count s [10]=_;rw [Lib.count_one]
 refine ⟨?_,?_⟩
 ·rw [h0,(rows_end s.length s (Nat.le_refl _)).1];omega
 ·rw [h0]
  have h1:=Lib.splitB_data ⟨#[10]⟩ 0 (s.count 10) ⟨s.toArray⟩
  have h2:(Lib.splitB ⟨#[10]⟩ 0 (s.count 10) ⟨s.toArray⟩).map (·.data.toList)=rowsNL s:=h1.trans (splitK_nl (s.count 10) s (Nat.le_refl _))
  have h3:∀ l:List ByteArray,l.map Value.string=(l.map (·.data.toList)).map fun r:Bs=>Value.string ⟨r.toArray⟩:=fun l=>by rw [List.map_map];exact List.map_congr_left fun x _=>by simp
  rw [h3,h2]
theorem split_anyP (s:Bs) (w:World) (hs:s.length≤65536) (hE:E28 w):Calls Tryd.prog 18 #[.string ⟨s.toArray⟩,.string ⟨#[10]⟩] w fun e w'=>e = .returned (.slice (some ⟨w.heap.size,0,none⟩) (rowsNL s).length (rowsNL s).length)∧BxL 9 w.heap.size ((rowsNL s).map fun r=>Value.string ⟨r.toArray⟩) w'∧Below w.heap.size w w':=by
 obtain ⟨m,hm⟩:=hE.ml
 refine (Tryd.strings_Split ⟨s.toArray⟩ ⟨#[10]⟩ m w (by show s.length<_;omega) hm (by decide)).mono ?_
 rintro e w' ⟨rfl,rfl⟩
 obtain ⟨h1,h2⟩:=rows_cellsP s
 rw [h1,h2]
 exact ⟨rfl,BxL.new _ _ _,(Below.refl _ _).alloc (Nat.le_refl _) _⟩
theorem pos_ok {p:Po} (h:checkP p=0):PoS p:=by
 have hk:=(checkP_iff p).1 h
 refine ⟨fun s hs=>?_,fun b hb=>?_,fun b hb=>?_⟩
 ·have:=name_len ((hk.lv).1 s hs);omega
 ·have:=name_len ((hk.ch).2.1 b hb).1;omega
 ·have:=name_len ((hk.st).2.1 b hb).1;omega
theorem print_cases (q:Po):(checkP q ≠ 0∧printP q=([],checkP q))∨(checkP q=0∧printP q=([],5))∨(checkP q=0∧printP q=(textP q,0)∧parseP (textP q)=(q,(0,0),0)):=by
 unfold printP
 by_cases h:checkP q=0
 ·right
  rw [if_neg (fun c=>c h)]
  by_cases hl:65536<(textP q).length
  ·rw [if_pos hl];exact .inl ⟨h,rfl⟩
  ·rw [if_neg hl]
   refine .inr ⟨h,rfl,?_⟩
   unfold parseP
   rw [parse_printP q h (by omega)]
 ·left
  rw [if_pos h];exact ⟨h,rfl⟩
theorem print_w (q:Po) (T:Bs) (E:Int) (h:printP q=(T,E)) (a b c d:Value) (w:World) (hE:E28 w) (hp:PoV (·<w.heap.size) w a b c d q) (hs:PoS q) :
  Calls Tryd.prog 12 #[.agg #[a,b,c,d,.bool q.sens,.int .i64 q.steps,.int .i64 q.paths,.int .i64 q.nodes,.int .i64 q.conf]] w fun e w'=>e = .returned (.tuple #[.string ⟨T.toArray⟩,.int .i64 E])∧Below w.heap.size w w':=by
 have h1:=print_po q a b c d w hE.po hp hs
 rw [h] at h1
 exact h1
end Go.Proofs.YtbijamcoibonkaaDoor
namespace Go.Proofs.YtbijamcoibonkaaDoor
set_option linter.unusedSimpArgs false
set_option linter.unusedVariables false
open Go.RowKit Go.Shelf
def Swp {α:Type} (l S:List α) (k:Nat):Prop:=S.length=l.length∧∀ i,i<l.length→S[i]?=if i<k∨l.length - k≤i then l[l.length - 1 - i]? else l[i]?
theorem Swp.zero {α:Type} (l:List α):Swp l l 0:=⟨rfl,fun i hi=>by rw [if_neg (by omega)]⟩
theorem Swp.next {α:Type} {l S:List α} {k:Nat} (h:Swp l S k) (hk:k<l.length / 2) {x y:α} (hx:S[k]?=some x) (hy:S[l.length - 1 - k]?=some y):Swp l ((S.set k y).set (l.length - 1 - k) x) (k+1):=by
 refine ⟨by rw [List.length_set,List.length_set];exact h.1,fun i hi=>?_⟩
 have hk1:=h.2 k (by omega)
 have hk2:=h.2 (l.length - 1 - k) (by omega)
 rw [if_neg (by omega),hx] at hk1
 rw [if_neg (by omega),hy] at hk2
 by_cases e1:i=l.length - 1 - k
 ·subst e1
  rw [List.getElem?_set_self (by rw [List.length_set,h.1];omega),if_pos (by omega),hk1]
  congr 1;omega
 ·rw [List.getElem?_set_ne (fun e=>e1 e.symm)]
  by_cases e2:i=k
  ·subst e2
   rw [List.getElem?_set_self (by rw [h.1];omega),if_pos (by omega),hk2]
  ·rw [List.getElem?_set_ne (fun e=>e2 e.symm),h.2 i hi]
   by_cases c:i<k∨l.length - k≤i
   ·rw [if_pos c,if_pos (by omega)]
   ·rw [if_neg c,if_neg (by omega)]
theorem Swp.fin {α:Type} {l S:List α} (h:Swp l S (l.length / 2)):S=l.reverse:=by
 refine List.ext_getElem? fun i=>?_
 by_cases hi:i<l.length
 ·rw [h.2 i hi,List.getElem?_reverse hi]
  split
  ·rfl
  ·have:i=l.length - 1 - i:=by omega
   rw [← this]
 ·rw [List.getElem?_eq_none (by rw [h.1];omega),List.getElem?_eq_none (by rw [List.length_reverse];omega)]
end Go.Proofs.YtbijamcoibonkaaDoor
