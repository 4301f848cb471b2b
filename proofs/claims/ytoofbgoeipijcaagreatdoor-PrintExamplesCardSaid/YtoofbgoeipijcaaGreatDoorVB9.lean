/-
 A part.
-/
import Derived.Test.YtoofbgoeipijcaaGreatDoorVB8
namespace Go.Proofs.YtoofbgoeipijcaaGreatDoor
set_option linter.all false
open Go.RowKit Go.Shelf
def BxL (t:TypeId) (b:Nat) (cs:List Value) (W:World):Prop:=W.heap[b]?=some (.cells cs.toArray t (0,0))
theorem BxL.new (t:TypeId) (W:World) (cs:List Value):BxL t W.heap.size cs (W.alloc (.cells cs.toArray t)):=by unfold BxL;rw [heap_al,if_pos rfl]
theorem BxL.lt {t:TypeId} {b:Nat} {cs:List Value} {W:World} (h:BxL t b cs W):b<W.heap.size:=(Array.getElem?_eq_some_iff.1 h).1
theorem BxL.keep {t:TypeId} {b:Nat} {cs:List Value} {W W':World} (h:BxL t b cs W) (e:W'.heap[b]?=W.heap[b]?):BxL t b cs W':=e.trans h
theorem BxL.bel {t:TypeId} {b:Nat} {cs:List Value} {W W':World} (h:BxL t b cs W) (hb:Below W.heap.size W W'):BxL t b cs W':=h.keep (hb.block b h.lt)
theorem BxL.al {t:TypeId} {b:Nat} {cs:List Value} {W:World} (h:BxL t b cs W) (o:Obj):BxL t b cs (W.alloc o):=h.bel (bA)
theorem BxL.at {t:TypeId} {b:Nat} {cs:List Value} {W:World} (h:BxL t b cs W) (i:Nat) {v:Value} (hv:cs[i]?=some v):W.cell? ⟨b,i,none⟩=some v:=by
 unfold BxL at h
 simp [World.cell?,h,hv]
theorem BxL.fr {t:TypeId} {b:Nat} {cs:List Value} {W:World} (h:BxL t b cs W) (i:Nat):W.frozen? ⟨b,i,none⟩=false:=by
 unfold BxL at h
 simp [World.frozen?,h]
abbrev inL (x:In) (av:Value):List Value:=[.int .u8 (x.kind:Int),.int .u8 (x.op:Int),.string ⟨x.dst.toArray⟩,.string ⟨x.nm.toArray⟩,av,.int .i64 x.pos.1,.int .i64 x.pos.2]
theorem wrap_next {k L:Nat} (h:k<L) (hL:L<=140737488355328):wrap64 ((k:Int)+1)=((k+1:Nat):Int):=by
 have:wrap64 ((k:Int)+1)=(k:Int)+1:=by unfold wrap64;omega
 rw [this];rfl
theorem meas_next {k L:Nat} (h:k<L) (hL:L<=140737488355328):L - (intOf (.int .i64 (wrap64 ((k:Int)+1)))).toNat<L - (intOf (.int .i64 (k:Int))).toNat:=by
 rw [wrap_next h hL];show L - ((k+1:Nat):Int).toNat<L - ((k:Nat):Int).toNat;omega
theorem BxL.set {t:TypeId} {b:Nat} {cs:List Value} {W:World} (h:BxL t b cs W) (i:Nat) (v:Value):BxL t b (cs.set i v) (W.setCell ⟨b,i,none⟩ v):=by
 unfold BxL at h ⊢
 simp only [World.setCell,Array.getElem?_modify]
 rw [h]
 simp
theorem heap_ot {W:World} {b i k:Nat} (h:k ≠ b) (v:Value):(W.setCell ⟨b,i,none⟩ v).heap[k]?=W.heap[k]?:=Below.heap_setCell _ _ _ _ h
theorem BxL.p2 {t:TypeId} {b:Nat} {a0 a1:Value} {r:List Value} {W:World} (h:BxL t b (a0 :: a1 :: r) W):W.cell? ⟨b,0,none⟩=some a0/\W.cell? ⟨b,1,none⟩=some a1:=⟨h.at 0 rfl,h.at 1 rfl⟩
theorem BxL.p3 {t:TypeId} {b:Nat} {a0 a1 a2:Value} {r:List Value} {W:World} (h:BxL t b (a0 :: a1 :: a2 :: r) W):W.cell? ⟨b,0,none⟩=some a0/\W.cell? ⟨b,1,none⟩=some a1/\W.cell? ⟨b,2,none⟩=some a2:=⟨h.at 0 rfl,h.at 1 rfl,h.at 2 rfl⟩
theorem BxL.p4 {t:TypeId} {b:Nat} {a0 a1 a2 a3:Value} {r:List Value} {W:World} (h:BxL t b (a0 :: a1 :: a2 :: a3 :: r) W):W.cell? ⟨b,0,none⟩=some a0/\W.cell? ⟨b,1,none⟩=some a1/\W.cell? ⟨b,2,none⟩=some a2/\W.cell? ⟨b,3,none⟩=some a3:=⟨h.at 0 rfl,h.at 1 rfl,h.at 2 rfl,h.at 3 rfl⟩
theorem BxL.p5 {t:TypeId} {b:Nat} {a0 a1 a2 a3 a4:Value} {r:List Value} {W:World} (h:BxL t b (a0 :: a1 :: a2 :: a3 :: a4 :: r) W):W.cell? ⟨b,0,none⟩=some a0/\W.cell? ⟨b,1,none⟩=some a1/\W.cell? ⟨b,2,none⟩=some a2/\W.cell? ⟨b,3,none⟩=some a3/\W.cell? ⟨b,4,none⟩=some a4:=⟨h.at 0 rfl,h.at 1 rfl,h.at 2 rfl,h.at 3 rfl,h.at 4 rfl⟩
theorem BxL.p6 {t:TypeId} {b:Nat} {a0 a1 a2 a3 a4 a5:Value} {r:List Value} {W:World} (h:BxL t b (a0 :: a1 :: a2 :: a3 :: a4 :: a5 :: r) W):W.cell? ⟨b,0,none⟩=some a0/\W.cell? ⟨b,1,none⟩=some a1/\W.cell? ⟨b,2,none⟩=some a2/\W.cell? ⟨b,3,none⟩=some a3/\W.cell? ⟨b,4,none⟩=some a4/\W.cell? ⟨b,5,none⟩=some a5:=⟨h.at 0 rfl,h.at 1 rfl,h.at 2 rfl,h.at 3 rfl,h.at 4 rfl,h.at 5 rfl⟩
theorem BxL.p7 {t:TypeId} {b:Nat} {a0 a1 a2 a3 a4 a5 a6:Value} {r:List Value} {W:World} (h:BxL t b (a0 :: a1 :: a2 :: a3 :: a4 :: a5 :: a6 :: r) W):W.cell? ⟨b,0,none⟩=some a0/\W.cell? ⟨b,1,none⟩=some a1/\W.cell? ⟨b,2,none⟩=some a2/\W.cell? ⟨b,3,none⟩=some a3/\W.cell? ⟨b,4,none⟩=some a4/\W.cell? ⟨b,5,none⟩=some a5/\W.cell? ⟨b,6,none⟩=some a6:=⟨h.at 0 rfl,h.at 1 rfl,h.at 2 rfl,h.at 3 rfl,h.at 4 rfl,h.at 5 rfl,h.at 6 rfl⟩
def Moved (w:World) (v v':Value):Prop:=v'.ownBlock=v.ownBlock\/∃ k,v'.ownBlock=some k/\w.heap.size<=k
theorem Moved.refl (w:World) (v:Value):Moved w v v := .inl rfl
theorem Moved.trans {w w':World} {a b c:Value} (h:Moved w a b) (hs:w.heap.size<=w'.heap.size) (k:Moved w' b c):Moved w a c:=by
 rcases k with k | ⟨j,k,hj⟩
 ·rcases h with h | ⟨i,h,hi⟩
  ·exact .inl (k.trans h)
  ·exact .inr ⟨i,k.trans h,hi⟩
 ·exact .inr ⟨j,k,by omega⟩
section
variable {P:Program}
theorem wpList_push {α:Type} {K:EK α} {B:Nat} {w:World} {v:Value} {l:List α} {x:α} {cs:List Value} {te:TypeId} {ops:Array Oper} {rest:List Oper} {o:Oper} {a:Act} {Q:Exit->Act->World->Prop}
  (hgd:o.guard=none) (s y:Operand) (t:TypeId) (ho:o.op=.call { callee := .builtin .append,args:=#[s,y],argTypes:=#[t,t] }) (ht:P.underlying t=some (.slice te))
  (z:Value) (bytes:Nat) (hinfo:(P.info? te).map (fun i=>(i.zero,i.size,i.bytes))=some (some z,K.n,bytes)) (hzs:z.cells.size=K.n)
  (h:GA K B te w v l) (hx:K.E (fun k=>k<w.heap.size/\v.ownBlock ≠ some k) w cs x) (hs:a.eval s=v) (hy:a.eval y=.slice (some ⟨w.heap.size,0,none⟩) 1 1)
  (hl:(l.length+1)*bytes<=140737488355328) (h63:l.length+1<=maxLen) (hB:B<=w.heap.size)
  (hK:∀ v' w',GA K B te w' v' (l++[x])->(w.alloc (.cells cs.toArray te)).grownBy w' v.ownBlock->Moved w v v'->wpList P ops Q rest (a.put o.dst v') w') :
  wpList P ops Q (o :: rest) a (w.alloc (.cells cs.toArray te)):=by
 obtain ⟨css,h1,h2⟩:=h.row
 refine wpList_appG (R:=fun _=>True) _ hgd s y t ho B te z K.n bytes ht hinfo hzs K.pos v l.length css.flatten hs (h2.alloc _) ⟨w.heap.size,0,none⟩ 1 1 cs hy (by rw [K.len hx];omega) (RowR.lit w cs te trivial) (K.one hx) hl h63 (by rw [sA];omega) ?_
 intro v' w' ho' hg hv
 refine hK v' w' ?_ hg ?_
 ·exact GA.push h1 (fun k hk=>(h2.lt k hk).2) hx hg ho' hv
 ·rcases hv with e | e
  ·exact .inl e
  ·exact .inr ⟨_,e,by rw [sA];omega⟩
end
theorem GA.below {α:Type} {K:EK α} {B e:Nat} {w w':World} {v:Value} {l:List α} (h:GA K B e w v l) {o:Obj} (hb:Below B w w) (hg:(w.alloc o).grownBy w' v.ownBlock) (hB:B<=w.heap.size):Below B w w':=by
 refine ⟨hg.os,hg.tape,hg.output,Nat.le_trans (by rw [sA];omega) hg.size,fun k hk=>?_⟩
 rw [hg.block k (by rw [sA];omega) (fun e=>by have:=(h.lt k e.symm).1;omega),heap_al,if_neg (by omega)]
theorem below_push {α:Type} {K:EK α} {B e:Nat} {w0 w w':World} {v:Value} {l:List α} (h:GA K B e w v l) {o:Obj} (hb:Below B w0 w) (hg:(w.alloc o).grownBy w' v.ownBlock) (hB:B<=w.heap.size):Below B w0 w' :=
 hb.trans (h.below (Below.refl _ _) hg hB)
structure CK where
 cb:Nat
 mc:Nat
 ma:Nat
 ms:Nat
 mp:Nat
 a:Value
 b:Value
 c:Value
 d:Value
 p:Pg
structure CS where
 chans:List Bs
 arrays:List Bs
 sites:List Bs
 params:List (Bs × Nat)
 labels:List (List Bs)
def kMap:EK Nat where
 n:=1
 pos:=by omega
 E _ _ cs r:=cs=[.map (some r)]
 len h:=by rw [h];rfl
 one h:=by subst h;intro u hu;rw [List.mem_singleton] at hu;subst hu;rfl
 keep h _:=h
abbrev ckL (K:CK) (vl:Value):List Value:=[.int .i64 K.p.width,K.a,K.b,K.c,K.d,.map (some K.mc),.map (some K.ma),.map (some K.ms),.map (some K.mp),vl]
structure Ck (B:Nat) (w:World) (K:CK) (vl:Value) (rs:List Nat) (S:CS):Prop where
 box:BxL 123 K.cb (ckL K vl) w
 pg:PgV (·<B) w K.a K.b K.c K.d K.p
 size:B<=w.heap.size
 ch:NmS w K.mc S.chans
 ar:NmS w K.ma S.arrays
 st:NmS w K.ms S.sites
 pm:CtS w K.mp S.params
 lb:GA kMap B 119 w vl rs
 rl:rs.length=S.labels.length
 lm:∀ i (h:i<S.labels.length) (h':i<rs.length),NmS w rs[i] S.labels[i]
 ge:B<=K.cb/\B<=K.mc/\B<=K.ma/\B<=K.ms/\B<=K.mp
 gr:∀ r ∈ rs,B<=r
 ne:K.mc ≠ K.ma/\K.mc ≠ K.ms/\K.mc ≠ K.mp/\K.ma ≠ K.ms/\K.ma ≠ K.mp/\K.ms ≠ K.mp
 nr:∀ r ∈ rs,r ≠ K.mc/\r ≠ K.ma/\r ≠ K.ms/\r ≠ K.mp
 own:vl.ownBlock ≠ some K.cb
def Off (B:Nat) (K:CK) (vl:Value) (rs:List Nat) (k:Nat):Prop:=B<=k/\k ≠ K.cb/\k ≠ K.mc/\k ≠ K.ma/\k ≠ K.ms/\k ≠ K.mp/\vl.ownBlock ≠ some k/\k ∉ rs
theorem MapS.not_cells {w:World} {r:Nat} {d:List Ent} (h:MapS w r d) {t:TypeId} {cs:List Value} (hc:BxL t r cs w):False:=by
 obtain ⟨es,clk,h1,_⟩:=h
 unfold BxL at hc
 rw [h1] at hc
 injection hc with hc
 cases hc
theorem GA.not_map {α:Type} {K:EK α} {B e:Nat} {w:World} {v:Value} {l:List α} (h:GA K B e w v l) {r:Nat} {d:List Ent} (hm:MapS w r d):v.ownBlock ≠ some r:=by
 obtain ⟨css,_,h2⟩:=h.row
 intro hv
 obtain ⟨_,h3⟩:=h2
 rcases h3 with ⟨rfl,_⟩ | ⟨g,cap,cur,rfl,hb,hg,_⟩
 ·cases hv
 ·cases hv
  obtain ⟨es,clk,h1,_⟩:=hm
  rw [h1] at hg
  injection hg with hg
  cases hg
theorem PgV.stay {B:Nat} {w w':World} {a b c d:Value} {p:Pg} (h:PgV (·<B) w a b c d p) (hf:∀ k,k<B->w'.heap[k]?=w.heap[k]?):PgV (·<B) w' a b c d p:=h.keep fun k hk=>⟨hk,hf k hk⟩
theorem GA.keepB {α:Type} {K:EK α} {B e:Nat} {w w':World} {v:Value} {l:List α} (h:GA K B e w v l) (hs:w.heap.size<=w'.heap.size) (hf:∀ k,(∀ (R:Nat->Prop),True)->k<w.heap.size->w'.heap[k]?=w.heap[k]?):GA K B e w' v l:=by
 obtain ⟨css,h1,h2⟩:=h.row
 exact ⟨⟨css,h1.keep fun k hk=>⟨⟨Nat.lt_of_lt_of_le hk.1 hs,hk.2⟩,hf k (fun _=>trivial) hk.1⟩,owns_keepG h2 fun j hj=>hf j (fun _=>trivial) (h2.lt j hj).2⟩⟩
theorem lb_keep {B e:Nat} {w w':World} {v:Value} {l:List Nat} (h:GA kMap B e w v l) (hs:w.heap.size<=w'.heap.size) (hf:∀ j,v.ownBlock=some j->w'.heap[j]?=w.heap[j]?):GA kMap B e w' v l:=by
 obtain ⟨css,h1,h2⟩:=h.row
 refine ⟨⟨css,⟨h1.1,fun i hi hi'=>?_⟩,owns_keepG h2 hf⟩⟩
 exact h1.2 i hi hi'
theorem Ck.but {B:Nat} {w w':World} {K:CK} {vl:Value} {rs:List Nat} {S:CS} {F:Nat->Prop} (h:Ck B w K vl rs S) (hb:But F w w') (hF:∀ k,F k->Off B K vl rs k):Ck B w' K vl rs S:=by
 have hn:∀ k,k<w.heap.size->¬ Off B K vl rs k->w'.heap[k]?=w.heap[k]?:=fun k hk hA=>hb.block k hk fun hf=>hA (hF k hf)
 refine ⟨h.box.keep (hn _ h.box.lt fun a=>a.2.1 rfl),h.pg.stay fun k hk=>hn k (Nat.lt_of_lt_of_le hk h.size) (fun a=>by have:=a.1;omega),Nat.le_trans h.size hb.size,
  h.ch.keep (hn _ h.ch.lt fun a=>a.2.2.1 rfl),h.ar.keep (hn _ h.ar.lt fun a=>a.2.2.2.1 rfl),h.st.keep (hn _ h.st.lt fun a=>a.2.2.2.2.1 rfl),h.pm.keep (hn _ h.pm.lt fun a=>a.2.2.2.2.2.1 rfl),
  lb_keep h.lb hb.size (fun j hj=>hn j (h.lb.lt j hj).2 fun a=>a.2.2.2.2.2.2.1 hj),h.rl,fun i hi hi'=>(h.lm i hi hi').keep (hn _ (h.lm i hi hi').lt fun a=>a.2.2.2.2.2.2.2 (List.getElem_mem hi')),h.ge,h.gr,h.ne,h.nr,h.own⟩
theorem Ck.below {B:Nat} {w w':World} {K:CK} {vl:Value} {rs:List Nat} {S:CS} (h:Ck B w K vl rs S) (hb:Below w.heap.size w w'):Ck B w' K vl rs S:=h.but (But.of_below (fun _=>False) hb) fun _ h=>h.elim
theorem Ck.apart {B:Nat} {w:World} {K:CK} {vl:Value} {rs:List Nat} {S:CS} (h:Ck B w K vl rs S) {k:Nat} (hk:w.heap.size<=k):Off B K vl rs k:=by
 have h1:=h.box.lt;have h2:=h.ch.lt;have h3:=h.ar.lt;have h4:=h.st.lt;have h5:=h.pm.lt;have h6:=h.size
 refine ⟨by omega,by omega,by omega,by omega,by omega,by omega,fun e=>by have:=(h.lb.lt k e).2;omega,fun hm=>?_⟩
 obtain ⟨i,hi,rfl⟩:=List.getElem_of_mem hm
 have:=(h.lm i (by rw [<- h.rl];exact hi) hi).lt
 omega
theorem Ck.setCh {B:Nat} {w w':World} {K:CK} {vl:Value} {rs:List Nat} {S:CS} (h:Ck B w K vl rs S) (hb:But (fun k=>k=K.mc) w w') {l:List Bs} (hm:NmS w' K.mc l):Ck B w' K vl rs { S with chans:=l }:=by
 have hn:∀ k,k<w.heap.size->k ≠ K.mc->w'.heap[k]?=w.heap[k]?:=fun k hk hne=>hb.block k hk hne
 have hbx:K.cb ≠ K.mc:=fun e=>MapS.not_cells h.ch (e ▸ h.box)
 have hge:=h.ge
 have hne:=h.ne
 refine ⟨h.box.keep (hn _ h.box.lt hbx),h.pg.stay fun k hk=>hn k (Nat.lt_of_lt_of_le hk h.size) (by omega),Nat.le_trans h.size hb.size,hm,h.ar.keep (hn _ h.ar.lt (Ne.symm hne.1)),h.st.keep (hn _ h.st.lt (Ne.symm hne.2.1)),h.pm.keep (hn _ h.pm.lt (Ne.symm hne.2.2.1)),
  lb_keep h.lb hb.size (fun j hj=>hn j (h.lb.lt j hj).2 fun e=>h.lb.not_map h.ch (e ▸ hj)),h.rl,fun i hi hi'=>(h.lm i hi hi').keep (hn _ (h.lm i hi hi').lt (h.nr _ (List.getElem_mem hi')).1),h.ge,h.gr,h.ne,h.nr,h.own⟩
theorem Ck.setAr {B:Nat} {w w':World} {K:CK} {vl:Value} {rs:List Nat} {S:CS} (h:Ck B w K vl rs S) (hb:But (fun k=>k=K.ma) w w') {l:List Bs} (hm:NmS w' K.ma l):Ck B w' K vl rs { S with arrays:=l }:=by
 have hn:∀ k,k<w.heap.size->k ≠ K.ma->w'.heap[k]?=w.heap[k]?:=fun k hk hne=>hb.block k hk hne
 have hbx:K.cb ≠ K.ma:=fun e=>MapS.not_cells h.ar (e ▸ h.box)
 have hge:=h.ge
 have hne:=h.ne
 refine ⟨h.box.keep (hn _ h.box.lt hbx),h.pg.stay fun k hk=>hn k (Nat.lt_of_lt_of_le hk h.size) (by omega),Nat.le_trans h.size hb.size,h.ch.keep (hn _ h.ch.lt hne.1),hm,h.st.keep (hn _ h.st.lt (Ne.symm hne.2.2.2.1)),h.pm.keep (hn _ h.pm.lt (Ne.symm hne.2.2.2.2.1)),
  lb_keep h.lb hb.size (fun j hj=>hn j (h.lb.lt j hj).2 fun e=>h.lb.not_map h.ar (e ▸ hj)),h.rl,fun i hi hi'=>(h.lm i hi hi').keep (hn _ (h.lm i hi hi').lt (h.nr _ (List.getElem_mem hi')).2.1),h.ge,h.gr,h.ne,h.nr,h.own⟩
theorem Ck.setSt {B:Nat} {w w':World} {K:CK} {vl:Value} {rs:List Nat} {S:CS} (h:Ck B w K vl rs S) (hb:But (fun k=>k=K.ms) w w') {l:List Bs} (hm:NmS w' K.ms l):Ck B w' K vl rs { S with sites:=l }:=by
 have hn:∀ k,k<w.heap.size->k ≠ K.ms->w'.heap[k]?=w.heap[k]?:=fun k hk hne=>hb.block k hk hne
 have hbx:K.cb ≠ K.ms:=fun e=>MapS.not_cells h.st (e ▸ h.box)
 have hge:=h.ge
 have hne:=h.ne
 refine ⟨h.box.keep (hn _ h.box.lt hbx),h.pg.stay fun k hk=>hn k (Nat.lt_of_lt_of_le hk h.size) (by omega),Nat.le_trans h.size hb.size,h.ch.keep (hn _ h.ch.lt hne.2.1),h.ar.keep (hn _ h.ar.lt hne.2.2.2.1),hm,h.pm.keep (hn _ h.pm.lt (Ne.symm hne.2.2.2.2.2)),
  lb_keep h.lb hb.size (fun j hj=>hn j (h.lb.lt j hj).2 fun e=>h.lb.not_map h.st (e ▸ hj)),h.rl,fun i hi hi'=>(h.lm i hi hi').keep (hn _ (h.lm i hi hi').lt (h.nr _ (List.getElem_mem hi')).2.2.1),h.ge,h.gr,h.ne,h.nr,h.own⟩
theorem Ck.setPm {B:Nat} {w w':World} {K:CK} {vl:Value} {rs:List Nat} {S:CS} (h:Ck B w K vl rs S) (hb:But (fun k=>k=K.mp) w w') {l:List (Bs × Nat)} (hm:CtS w' K.mp l):Ck B w' K vl rs { S with params:=l }:=by
 have hn:∀ k,k<w.heap.size->k ≠ K.mp->w'.heap[k]?=w.heap[k]?:=fun k hk hne=>hb.block k hk hne
 have hbx:K.cb ≠ K.mp:=fun e=>MapS.not_cells h.pm (e ▸ h.box)
 have hge:=h.ge
 have hne:=h.ne
 refine ⟨h.box.keep (hn _ h.box.lt hbx),h.pg.stay fun k hk=>hn k (Nat.lt_of_lt_of_le hk h.size) (by omega),Nat.le_trans h.size hb.size,h.ch.keep (hn _ h.ch.lt hne.2.2.1),h.ar.keep (hn _ h.ar.lt hne.2.2.2.2.1),h.st.keep (hn _ h.st.lt hne.2.2.2.2.2),hm,
  lb_keep h.lb hb.size (fun j hj=>hn j (h.lb.lt j hj).2 fun e=>h.lb.not_map h.pm (e ▸ hj)),h.rl,fun i hi hi'=>(h.lm i hi hi').keep (hn _ (h.lm i hi hi').lt (h.nr _ (List.getElem_mem hi')).2.2.2),h.ge,h.gr,h.ne,h.nr,h.own⟩
theorem Ck.push {B:Nat} {w w5:World} {K:CK} {vl v5:Value} {rs:List Nat} {S:CS} {r:Nat} {l:List Bs} {o:Obj} (h:Ck B w K vl rs S) (hr:NmS w r l) (ho:Off B K vl rs r) (hg:(w.alloc o).grownBy w5 vl.ownBlock) (h5:GA kMap B 119 w5 v5 (rs++[r])) (hm:Moved w vl v5) :
  Ck B (w5.setCell ⟨K.cb,9,none⟩ v5) K v5 (rs++[r]) { S with labels:=S.labels++[l] }/\But (fun k=>k=K.cb\/vl.ownBlock=some k) w (w5.setCell ⟨K.cb,9,none⟩ v5):=by
 have hb5:∀ k,k<w.heap.size->vl.ownBlock ≠ some k->w5.heap[k]?=w.heap[k]?:=fun k hk hne=>by
  rw [hg.block k (by rw [sA];omega) (fun e=>hne e.symm),heap_al,if_neg (by omega)]
 have hb:∀ k,k<w.heap.size->vl.ownBlock ≠ some k->k ≠ K.cb->(w5.setCell ⟨K.cb,9,none⟩ v5).heap[k]?=w.heap[k]?:=fun k hk hne hc=>by
  rw [heap_ot hc,hb5 k hk hne]
 have hs5:=hg.size
 rw [sA] at hs5
 have hs:w.heap.size<=(w5.setCell ⟨K.cb,9,none⟩ v5).heap.size:=by simp [World.setCell];omega
 have hnm:∀ {q:Nat} {d:List Ent},MapS w q d->(w5.setCell ⟨K.cb,9,none⟩ v5).heap[q]?=w.heap[q]?:=fun {q d} hq =>
  hb q hq.lt (h.lb.not_map hq) fun e=>MapS.not_cells hq (e ▸ h.box)
 have hown:v5.ownBlock ≠ some K.cb:=fun e=>by
  rcases hm with e' | ⟨k,e',hk⟩
  ·exact h.own (e'.symm.trans e)
  ·rw [e'] at e;injection e with e;have:=h.box.lt;omega
 refine ⟨⟨?_,?_,Nat.le_trans h.size hs,h.ch.keep (hnm h.ch),h.ar.keep (hnm h.ar),h.st.keep (hnm h.st),h.pm.keep (hnm h.pm),?_,?_,?_,h.ge,?_,h.ne,?_,hown⟩,⟨hg.os,hg.tape,hg.output,hs,fun k hk hF=>hb k hk (fun e=>hF (.inr e)) fun e=>hF (.inl e)⟩⟩
 ·have h1:BxL 123 K.cb (ckL K vl) w5:=h.box.keep (hb5 _ h.box.lt h.own)
  exact h1.set 9 v5
 ·refine h.pg.stay fun k hk=>?_
  have hge:=h.ge
  refine hb k (Nat.lt_of_lt_of_le hk h.size) (fun e=>?_) (by omega)
  have:=(h.lb.lt k e).1;omega
 ·exact lb_keep h5 (by simp [World.setCell]) fun j hj=>heap_ot (fun e=>hown (by rw [<- e];exact hj)) _
 ·rw [List.length_append,List.length_append,h.rl];rfl
 ·intro i hi hi'
  by_cases hlt:i<S.labels.length
  ·rw [List.getElem_append_left (by rw [h.rl];exact hlt),List.getElem_append_left hlt]
   exact (h.lm i hlt (by rw [h.rl];exact hlt)).keep (hnm (h.lm i hlt (by rw [h.rl];exact hlt)))
  ·have:i=S.labels.length:=by simp at hi;omega
   subst this
   rw [List.getElem_append_right (by rw [h.rl];omega),List.getElem_append_right (by omega)]
   simp only [h.rl,Nat.sub_self,List.getElem_cons_zero]
   exact hr.keep (hnm hr)
 ·intro q hq
  rcases List.mem_append.1 hq with hq | hq
  ·exact h.gr q hq
  ·rw [List.mem_singleton.1 hq];exact ho.1
 ·intro q hq
  rcases List.mem_append.1 hq with hq | hq
  ·exact h.nr q hq
  ·rw [List.mem_singleton.1 hq];exact ⟨ho.2.2.1,ho.2.2.2.1,ho.2.2.2.2.1,ho.2.2.2.2.2.1⟩
end Go.Proofs.YtoofbgoeipijcaaGreatDoor
